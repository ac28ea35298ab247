/-
  Texts of one proof, one behind the other.
-/
import Derived.Test.YtccmboenpbjhnaaGreatDoorF5
set_option linter.all false
section
namespace Go.Am
open Go Go.Proofs
variable [Inhabited bV]
structure So(b:Nat)(s:PS)(x:Sm)(U:PS):Prop where
 vars:U.vars=s.vars
 fit:gC x=true
 lit:qe x=true
 w:cM (bX x)+100*s.at_<=100*U.at_+b
structure Bo(b:Nat)(s:PS)(l:List Sm)(U:PS):Prop where
 vars:U.vars=s.vars
 fit:fG l=true
 lit:iZ l=true
 w:aV (jF l)+100*s.at_<=100*U.at_+b
theorem So.pre{k b:Nat}{s s1 s2:PS}{x:Sm}(h:So b s1 x s2)(AG:Gx k s s1):So b s x s2:=⟨h.vars.trans AG.vars,h.fit,h.lit,by have:=h.w;have:=AG.at_;omega⟩
theorem So.post{k b:Nat}{s s1 s2:PS}{x:Sm}(h:So b s x s1)(AG:Gx k s1 s2):So b s x s2:=⟨AG.vars.trans h.vars,h.fit,h.lit,by have:=h.w;have:=AG.at_;omega⟩
theorem Bo.gx{s U:PS}{l:List Sm}(h:Bo 0 s l U):Gx 0 s U:=⟨h.vars,by have:=h.w;omega⟩
theorem yI(op:Int)(name:Tx)(to val:Ex)(conds:List Ex)(A8:List (List Int))(fields:List Tx)(blocks:List (List Sm))(line:Int):
 cM (bX (.mk op name to val conds A8 fields blocks line))+2=8+name.length+cM (bK to)+cM (bK val)+aV (dA conds)+aV (A8.map p7)+aV (fields.map D.str)+aV (gJ blocks):=by
 have J:=uN to;have I:=uN val;simp only[bX,cM,aV,kg];omega
theorem xH:cM (bK gF)=7:=rfl
theorem ajo(n:Int):∀x:Sm,cM (bX (DA n x))=cM (bX x)
 | .mk op name to val conds A8 fields blocks line=>by simp only[DA,bX,cM,aV,kg]
theorem aeU(n:Int):∀x:Sm,gC (DA n x)=gC x
 | .mk op name to val conds A8 fields blocks line=>by simp only[DA,gC]
theorem aeV(n:Int):∀x:Sm,qe (DA n x)=qe x
 | .mk op name to val conds A8 fields blocks line=>by simp only[DA,qe]
theorem DW:∀{l:List Sm}{x:Sm},fG l=true->gC x=true->fG (l++[x])=true
 |[],x,_,O=>by simp[fG,O]
 |y::r,x,h,O=>by
  simp only[af3,fG,Ds]at h⊢;exact⟨h.1,DW h.2 O⟩
theorem DX:∀{l:List Sm}{x:Sm},iZ l=true->qe x=true->iZ (l++[x])=true
 |[],x,_,O=>by simp[iZ,O]
 |y::r,x,h,O=>by
  simp only[af3,iZ,Ds]at h⊢;exact⟨h.1,DX h.2 O⟩
theorem uO:∀{l:List (List Sm)}{x:List Sm},cH l=true->fG x=true->cH (l++[x])=true
 |[],x,_,O=>by simp[cH,O]
 |y::r,x,h,O=>by
  simp only[af3,cH,Ds]at h⊢;exact⟨h.1,uO h.2 O⟩
theorem uP:∀{l:List (List Sm)}{x:List Sm},fL l=true->iZ x=true->fL (l++[x])=true
 |[],x,_,O=>by simp[fL,O]
 |y::r,x,h,O=>by
  simp only[af3,fL,Ds]at h⊢;exact⟨h.1,uP h.2 O⟩
theorem yJ:∀{l:List Ex}{x:Ex},bQ l=true->bn x=true->bQ (l++[x])=true
 |[],x,_,O=>by simp[bQ,O]
 |y::r,x,h,O=>by
  simp only[af3,bQ,Ds]at h⊢;exact⟨h.1,yJ h.2 O⟩
theorem yK:∀{l:List Ex}{x:Ex},dB l=true->dG x=true->dB (l++[x])=true
 |[],x,_,O=>by simp[dB,O]
 |y::r,x,h,O=>by
  simp only[af3,dB,Ds]at h⊢;exact⟨h.1,yK h.2 O⟩
theorem Pk(l:List Sm)(x:Sm):aV (jF (l++[x]))=aV (jF l)+cM (bX x):=by
 rw[pU,pU,ah4,kg];simp[aV]
theorem Pm(l:List Ex)(x:Ex):aV (dA (l++[x]))=aV (dA l)+cM (bK x):=by
 rw[we,we,ah4,kg];simp[aV]
theorem BE(l:List (List Sm))(b:List Sm):aV (gJ (l++[b]))=aV (gJ l)+(aV (jF b)+1):=by
 rw[Ai,Ai,ah4,kg];simp only[abR,ahM,aV,cM];rw[<-pU]
theorem noX:fA gF=true:=rfl
theorem vW:dG gF=true:=rfl
theorem G3:∀{x:Ex},bn x=true->fA x=false
 | .mk op n name field sub line,h=>by
  by_cases AV:op=0
  ·subst AV;simp[bn]at h
  ·simp[fA,dj,AV]
theorem aoF{c:List Ex}{l:List (List Sm)}(A3:bQ c=true)(E:cH l=true)(h:1<=c.length/\c.length<=l.length/\l.length<=c.length+1):gC (.mk 2 [] gF gF c [] [] l 0)=true:=by
 simp[gC,noX,A3,E,bY];omega
theorem aeW{v:Ex}{c:List (List Int)}{l:List (List Sm)}(A9:bn v=true)(A3:c.all xB=true)(E:cH l=true)(h:c.length<=l.length/\l.length<=c.length+1):gC (.mk 3 [] gF v [] c [] l 0)=true:=by
 simp only[abX]at A3;simp[gC,bQ,noX,A9,G3 A9,E,bY];exact⟨h,A3⟩
theorem ajp{V:Tx}{a b c:Ex}{l:List Sm}(W:fK V=true)(Ae:bn a=true)(E:bn b=true)(A3:bn c=true)(A5:fG l=true):gC (.mk 4 V gF gF [a,b,c] [] [] [l] 0)=true:=by
 simp[gC,bQ,cH,noX,W,Ae,E,A3,A5,bY]
theorem Pp{op:Int}{v:Ex}{l:List Sm}(AH:op=5\/op=6)(A9:bn v=true)(A5:fG l=true):gC (.mk op [] gF v [] [] [] [l] 0)=true:=by
 rcases AH with rfl|rfl<;>simp[gC,bQ,cH,noX,A9,G3 A9,A5,bY]
theorem Pq{V:Tx}{c:List Tx}{l:List Ex}(W:fK V=true)(A3:c.all fK=true)(A5:bQ l=true)(h:l.length=c.length):gC (.mk 9 V gF gF l [] c [] 0)=true:=by
 simp only[abX]at A3;simp[gC,cH,noX,W,A5,bY,h];exact A3
theorem aoG{to v:Ex}(AH:dj to=3\/dj to=4)(Af:bn to=true)(A9:bn v=true):gC (.mk 1 [] to v [] [] [] [] 0)=true:=by
 simp[gC,bQ,cH,AH,Af,A9,G3 A9,bY]
theorem xI{op:Int}{name:Tx}{to val:Ex}{conds:List Ex}{A8:List (List Int)}{fields:List Tx}{blocks:List (List Sm)}{line:Int}(J:dG to=true)(I:dG val=true)(H:dB conds=true)(T:A8.all (λl=>l.all OX)=true)(M:fL blocks=true):qe (.mk op name to val conds A8 fields blocks line)=true:=by
 simp only[qe,J,I,H,T,M];rfl
theorem aoH(l:List Int):cM (p7 l)=l.length+1:=by
 have:∀l:List Int,aV (l.map λn=>D.int .i64 n)=l.length:=λl=>by
  induction l with
  |nil=>rfl
  |cons a r ih=>simp only[abR,aV,cM,ih,aan];omega
 simp only[p7,cM,this]
theorem aeX(c:List (List Int))(l:List Int):aV ((c++[l]).map p7)=aV (c.map p7)+(l.length+1):=by
 rw[ah4,kg];simp[aV,aoH]
theorem aeY(c:List Tx)(t:Tx):aV ((c++[t]).map D.str)=aV (c.map D.str)+(t.length+1):=by
 rw[ah4,kg];simp[aV,cM]
theorem EZ{α:Type}{p:α->Bool}{l:List α}{x:α}(h:l.all p=true)(O:p x=true):(l++[x]).all p=true:=by
 simp[List.all_append,h,O]
structure Lo(s:PS)(l:List Int)(U:PS)(b:Nat):Prop where
 g:Gx 1 s U
 ok:xB l=true
 lit:l.all OX=true
 w:l.length+2+100*s.at_<=100*U.at_+b
section
variable {L:List bI} (AA:∀t∈L,DN t)
theorem F6{s:PS}:Po (iW L s) λ_ U=>U=s:=by
 unfold iW;refine kY.bind λt s1 ⟨e,Ag⟩=>?_;subst e;exact Po.iff (λ_=>rfl) λ_=>tX.mono λb U ⟨a,_⟩=>a
theorem Y9{s:PS}:Po (pn L s) λ_ U=>U=s:=by
 unfold pn;refine F6.bind λt s1 e=>?_;subst e;refine Po.iff (λ_=>rfl) λ_=>tX.bind λb s2 ⟨e,_⟩=>?_;subst e;exact Po.iff (λ_=>rfl) λ_=>tX.mono λb U ⟨a,_⟩=>a
include AA
theorem LJ:∀(f:Nat)(l:List Int)(s:PS),l.length%2=0->(∀n∈l, -9223372036854775807<=n/\n<=9223372036854775807)->Po (ji L f l s) λAW U=>Lo s AW U l.length
 |0,l,s,_,_=>trivial
 |f+1,l,s,hm,W=>by
  unfold ji;refine (DQ AA).bind λlo s1 ⟨J,AX⟩=>en.bind λb s2 ⟨I,AP⟩=>?_;have H:Po (if b=true then mW L s2 else .ok lo s2) λn U=>Gx 0 s1 U/\ -9223372036854775807<=n/\n<=9223372036854775807:=by
   refine Po.iff (λE=>(DQ AA).mono λn U ⟨h,hh⟩=>⟨((I E).trans h).le (by omega),hh⟩) λE=>?_;have:=AP (by simpa using E);subst this;exact⟨Gx.refl,AX⟩
  refine H.bind λhi Z ⟨H,Ah⟩=>Po.iff (λ_=>?_) λ_=>trivial;have AQ:∀n∈l++[lo,hi], -9223372036854775807<=n/\n<=9223372036854775807:=by
   intro n O;rcases aa0.1 O with O|O
   ·exact W n O
   ·rcases aaC.1 O with rfl|O
    ·exact AX
    ·rw[akB.1 O];exact Ah
  have AY:(l++[lo,hi]).length%2=0:=by simp only[aam,aan,aaw];omega
  refine en.bind λb Y ⟨T,AI⟩=>Po.iff (λE=>?_) λE=>?_
  ·have T:=T E;refine (LJ f (l++[lo,hi]) Y AY AQ).mono λAW U h=>?_;have A4:=J.at_;have a3:=H.at_;have a4:=T.at_;refine⟨(J.trans (H.trans (T.trans h.g))).le (by omega),h.ok,h.lit,?_⟩;have:=h.w;simp only[aam,aan,aaw]at this;omega
  ·have:=AI (by simpa using E);subst this;refine dY.bind λ_ A2 M=>?_;have A4:=J.at_;have a3:=H.at_;have a5:=M.at_;refine⟨(J.trans (H.trans M)).le (by omega),?_,?_,?_⟩
   ·unfold xB;rw[aop (by simp),af9 AY];simp only[Bool.not_false,Bool.true_and,abX,aak];intro n O;have:=AQ n O;omega
   ·simp only[abX];intro n O;have:=AQ n O;unfold OX;simp only[aak];omega
   ·simp only[aam,aan,aaw];omega
structure PoS(L:List bI)(f:Nat):Prop where
 block:∀(ws:List Tx)(s:PS),Po (eN L f ws s) (Bo 0 s)
 loop:∀(ws:List Tx)(l:List Sm)(s:PS),fG l=true->iZ l=true->Po (kV L f ws l s) (Bo (aV (jF l)) s)
 stmt:∀s:PS,Po (lQ L f s) (So 0 s)
 ef:∀s:PS,Po (oB L f s) (So 0 s)
 jk:∀s:PS,Po (gR L f s) (So 0 s)
 dF:∀(c:List Ex)(l:List (List Sm))(s:PS),c.length=l.length->bQ c=true->dB c=true->cH l=true->fL l=true->Po (dF L f c l s) (So (aV (dA c)+aV (gJ l)) s)
 cases:∀s:PS,Po (lR L f s) (So 0 s)
 gA:∀(v:Ex)(c:List (List Int))(l:List (List Sm))(s:PS),bn v=true->dG v=true->c.length=l.length->c.all xB=true->c.all (λl=>l.all OX)=true->cH l=true->fL l=true->Po (gA L f v c l s) (So (cM (bK v)+aV (c.map p7)+aV (gJ l)) s)
 ib:∀(l:List Sm)(s:PS),fG l=true->iZ l=true->Po (ib L f l s) (Bo (aV (jF l)) s)
 kJ:∀s:PS,Po (iL L f s) (So 0 s)
 call:∀(V:Tx)(s:PS),fK V=true->Po (oC L f V s) (So 0 s)
 iM:∀(V:Tx)(c:List Tx)(l:List Ex)(s:PS),fK V=true->l.length=c.length->c.all fK=true->bQ l=true->dB l=true->Po (iM L f V c l s) (So (aV (c.map D.str)+aV (dA l)) s)
theorem poS:∀f,PoS L f
 |0=>⟨λ_ _=>trivial,λ_ _ _ _ _=>trivial,λ_=>trivial,λ_=>trivial,λ_=>trivial,λ_ _ _ _ _ _ _ _=>trivial,λ_=>trivial,λ_ _ _ _ _ _ _ _ _ _ _=>trivial,λ_ _ _ _=>trivial,λ_=>trivial,λ_ _ _=>trivial,λ_ _ _ _ _ _ _ _ _=>trivial⟩
 |f+1=>by
  have ih:=poS f;have A6:=poE AA f;refine⟨?_,?_,?_,?_,?_,?_,?_,?_,?_,?_,?_,?_⟩
  ·intro ws s;unfold eN;exact ih.loop ws [] s rfl rfl
  ·intro ws l s AJ A5;unfold kV;refine (O3 _).bind λb s1 ⟨e,J⟩=>?_;subst e;refine Po.iff (λE=>⟨rfl,AJ,A5,by omega⟩) λE=>(ih.stmt s1).bind λx s2 I=>Po.iff (λ_=>?_) λ_=>trivial;refine (ih.loop ws _ s2 (DW AJ I.fit) (DX A5 I.lit)).mono λy Z H=>⟨H.vars.trans I.vars,H.fit,H.lit,?_⟩;have A4:=I.w;have a2:=H.w;rw[Pk]at a2;omega
  ·intro s;unfold lQ;refine kY.bind λt s1 ⟨e,Ag⟩=>?_;subst e;refine Ms.bind λ_ s2 ⟨I,_⟩=>(ih.ef s2).bind λx Z H=>dY.bind λ_ Y T=>IM.bind λ_ A2 M=>?_;have A1:=((H.pre I).post T).post M;exact⟨A1.vars,by rw[aeU];exact A1.fit,by rw[aeV];exact A1.lit,by rw[ajo];exact A1.w⟩
  ·intro s;unfold oB;refine en.bind λb s1 ⟨J,A'⟩=>Po.iff (λE=>(ih.jk s1).mono λx s2 I=>I.pre (J E)) λE=>?_;have:=A' (by simpa using E);subst this;refine en.bind λb s1 ⟨J,A'⟩=>Po.iff (λE=>(ih.cases s1).mono λx s2 I=>I.pre (J E)) λE=>?_;have:=A' (by simpa using E);subst this;refine en.bind λb s1 ⟨J,A'⟩=>Po.iff (λE=>(ih.kJ s1).mono λx s2 I=>I.pre (J E)) λE=>?_;have:=A' (by simpa using E);subst this;refine en.bind λb s1 ⟨J,A'⟩=>Po.iff (λE=>?_) λE=>?_
   ·refine (A6.expr s1).bind λv s2 I=>dY.bind λ_ Z H=>(ih.block _ Z).bind λl Y T=>dY.bind λ_ A2 M=>?_;have A4:=(J E).at_;have a2:=I.w;have a3:=H.at_;have a4:=T.w;have a5:=M.at_;have e:=yI 5 [] gF v [] [] [] [l] 0;refine⟨M.vars.trans (T.vars.trans (H.vars.trans (I.vars.trans (J E).vars))),Pp (.inl rfl) I.fit T.fit,xI vW I.lit rfl rfl (by simp only[fL,T.lit];rfl),?_⟩;simp only[dA,gJ,ahM,aV,cM,xH,aaw]at e;omega
   have:=A' (by simpa using E);subst this;refine en.bind λb s1 ⟨J,A'⟩=>Po.iff (λE=>?_) λE=>?_
   ·refine (ih.block _ s1).bind λl s2 I=>dY.bind λ_ Z H=>(A6.expr Z).bind λv Y T=>dY.bind λ_ A2 M=>?_;have A4:=(J E).at_;have a2:=I.w;have a3:=H.at_;have a4:=T.w;have a5:=M.at_;have e:=yI 6 [] gF v [] [] [] [l] 0;refine⟨M.vars.trans (T.vars.trans (H.vars.trans (I.vars.trans (J E).vars))),Pp (.inr rfl) T.fit I.fit,xI vW T.lit rfl rfl (by simp only[fL,I.lit];rfl),?_⟩;simp only[dA,gJ,ahM,aV,cM,xH,aaw]at e;omega
   have:=A' (by simpa using E);subst this;refine en.bind λb s1 ⟨J,A'⟩=>Po.iff (λE=>?_) λE=>?_
   ·have A4:=(J E).at_;refine⟨(J E).vars,rfl,rfl,?_⟩;have e:cM (bX (Ov 7))=20:=rfl;omega
   have:=A' (by simpa using E);subst this;refine en.bind λb s1 ⟨J,A'⟩=>Po.iff (λE=>?_) λE=>?_
   ·have A4:=(J E).at_;refine⟨(J E).vars,rfl,rfl,?_⟩;have e:cM (bX (Ov 8))=20:=rfl;omega
   have:=A' (by simpa using E);subst this;refine (lB AA (by decide)).bind λV s2 ⟨I,Aj,Ak,_⟩=>?_;have W:=Ak.name Aj;have AR:=nE W;refine en.bind λb Z ⟨H,Al⟩=>Po.iff (λE=>(ih.call V.text Z W).mono λx Y T=>(T.pre (H E)).pre I) λE=>?_;have:=Al (by simpa using E);subst this;refine tX.bind λb Y ⟨e,_⟩=>?_;subst e;have AD:Po (if b=true then (jJ L f Y).bind λx s=>.ok (gK 4 V.text [x] V.line) s else .ok (qU V) Y) λto U=>(dj to=3\/dj to=4)/\Xo 30 Y to U:=by
    refine Po.iff (λE=>(A6.index Y).bind λx A2 M=>?_) λE=>?_
    ·refine⟨.inr rfl,M.vars,UJ W M.fit,JM M.lit,?_⟩;have:=M.w;rw[IN];simp only[dA,aV];omega
    ·refine⟨.inl rfl,rfl,UK W,UL,?_⟩;simp only[qU,bK,dA,cM,aV,aaw];omega
   refine AD.bind λto A2 ⟨AH,M⟩=>dY.bind λ_ AK A1=>(A6.expr AK).bind λv AL A7=>?_;have a2:=I.at_;have a5:=M.w;have An:=A1.at_;have Ao:=A7.w;have e:=yI 1 [] to v [] [] [] [] 0;refine⟨A7.vars.trans (A1.vars.trans (M.vars.trans I.vars)),aoG AH M.fit A7.fit,xI M.lit A7.lit rfl rfl rfl,?_⟩;simp only[dA,gJ,ahM,aV,aaw]at e;omega
  ·intro s;unfold gR;exact ih.dF [] [] s rfl rfl rfl rfl rfl
  ·intro c l s AE AM AN AB AC;unfold dF;refine (A6.expr s).bind λx s1 J=>dY.bind λ_ s2 I=>(ih.block _ s2).bind λb Z H=>Po.iff (λ_=>?_) λ_=>trivial;have A4:=J.w;have a2:=I.at_;have a3:=H.w;have f1:=yJ AM J.fit;have f2:=yK AN J.lit;have f3:=uO AB H.fit;have f4:=uP AC H.lit;have AZ:=Pm c x;have A_:=BE l b;refine en.bind λm Y ⟨T,AI⟩=>Po.iff (λE=>?_) λE=>?_
   ·have a4:=(T E).at_;refine (ih.dF _ _ Y (by simp[AE]) f1 f2 f3 f4).mono λy A2 M=>⟨M.vars.trans ((T E).vars.trans (H.vars.trans (I.vars.trans J.vars))),M.fit,M.lit,?_⟩;have a5:=M.w;omega
   have:=AI (by simpa using E);subst this;refine en.bind λm A2 ⟨M,Ap⟩=>?_;have AD:Po (if m=true then (eN L f [[69,78,68,95,73,70]] A2).bind λz s=>.ok (l++[b]++[z]) s else .ok (l++[b]) A2) λA0 U=>Gx 0 Y U/\cH A0=true/\fL A0=true/\(c.length+1<=A0.length/\A0.length<=c.length+2)/\aV (gJ A0)+100*Y.at_<=aV (gJ (l++[b]))+100*U.at_:=by
    refine Po.iff (λE=>(ih.block _ A2).bind λz AK A1=>?_) λE=>?_
    ·have a5:=(M E).at_;have An:=A1.w;have Aq:=BE (l++[b]) z;exact⟨((M E).trans A1.gx).le (by omega),uO f3 A1.fit,uP f4 A1.lit,by simp;omega,by omega⟩
    ·have:=Ap (by simpa using E);subst this;exact⟨Gx.refl,f3,f4,by simp;omega,by omega⟩
   refine AD.bind λA0 AK ⟨A1,g1,g2,g3,g4⟩=>dY.bind λ_ AL A7=>?_;have Ao:=A7.at_;have e:=yI 2 [] gF gF (c++[x]) [] [] A0 0;refine⟨A7.vars.trans (A1.vars.trans (H.vars.trans (I.vars.trans J.vars))),aoF f1 g1 (by simp;omega),xI vW vW f2 rfl g2,?_⟩;simp only[ahM,aV,xH,aaw]at e;omega
  ·intro s;unfold lR;refine (A6.expr s).bind λv s1 J=>dY.bind λ_ s2 I=>(ih.gA v [] [] s2 J.fit J.lit rfl rfl rfl rfl rfl).mono λx Z H=>?_;have A4:=J.w;have a2:=I.at_;have a3:=H.w;refine⟨H.vars.trans (I.vars.trans J.vars),H.fit,H.lit,?_⟩;simp only[ahM,gJ,aV]at a3;omega
  ·intro v c l s Aa Ab AE AM AN AB AC;unfold gA;refine F6.bind λb s1 e=>?_;subst e;refine Po.iff (λE=>?_) λE=>?_
   ·refine (LJ AA f [] s1 rfl (λ_ h=>nomatch h)).bind λx s2 I=>(ih.ib [] s2 rfl rfl).bind λb Z H=>Po.iff (λ_=>?_) λ_=>trivial;have a2:=I.w;have Au:=I.g.at_;have a3:=H.w;have AZ:=aeX c x;have A_:=BE l b;refine (ih.gA v _ _ Z Aa Ab (by simp[AE]) (EZ AM I.ok) (EZ AN I.lit) (uO AB H.fit) (uP AC H.lit)).mono λy Y T=>⟨T.vars.trans (H.vars.trans I.g.vars),T.fit,T.lit,?_⟩;have a4:=T.w;simp only[jF,aV,aaw]at a3 a2;omega
   refine en.bind λm s2 ⟨I,AP⟩=>?_;have AD:Po (if m=true then (eN L f [[69,78,68,95,67,65,83,69]] s2).bind λz s=>if l.length<100000 then .ok (l++[z]) s else .out else .ok l s2) λA0 U=>Gx 0 s1 U/\cH A0=true/\fL A0=true/\(c.length<=A0.length/\A0.length<=c.length+1)/\aV (gJ A0)+100*s1.at_<=aV (gJ l)+100*U.at_:=by
    refine Po.iff (λE=>(ih.block _ s2).bind λz Z H=>Po.iff (λ_=>?_) λ_=>trivial) λE=>?_
    ·have a2:=(I E).at_;have a3:=H.w;have Aq:=BE l z;exact⟨((I E).trans H.gx).le (by omega),uO AB H.fit,uP AC H.lit,by simp;omega,by omega⟩
    ·have:=AP (by simpa using E);subst this;exact⟨Gx.refl,AB,AC,by omega,by omega⟩
   refine AD.bind λA0 Z ⟨H,g1,g2,g3,g4⟩=>dY.bind λ_ Y T=>?_;have a4:=T.at_;have e:=yI 3 [] gF v [] c [] A0 0;refine⟨T.vars.trans H.vars,aeW Aa AM g1 g3,xI vW Ab rfl AN g2,?_⟩;simp only[ahM,dA,aV,xH,aaw]at e;omega
  ·intro l s AJ A5;unfold ib;refine Y9.bind λb s1 e=>?_;subst e;refine Po.iff (λE=>⟨rfl,AJ,A5,by omega⟩) λE=>(ih.stmt s1).bind λx s2 I=>Po.iff (λ_=>?_) λ_=>trivial;refine (ih.ib _ s2 (DW AJ I.fit) (DX A5 I.lit)).mono λy Z H=>⟨H.vars.trans I.vars,H.fit,H.lit,?_⟩;have A4:=I.w;have a2:=H.w;rw[Pk]at a2;omega
  ·intro s;unfold iL;refine (lB AA (by decide)).bind λV s1 ⟨J,AS,AT,_⟩=>dY.bind λ_ s2 I=>(A6.expr s2).bind λa Z H=>dY.bind λ_ Y T=>(A6.expr Y).bind λb A2 M=>kY.bind λt AK ⟨e,_⟩=>?_;subst e;have W:=AT.name AS;have AR:=nE W;refine en.bind λm AL ⟨A7,Ar⟩=>?_;have AD:Po (if m=true then gn L f AL else .ok (.mk 1 1 [] [] [] t.line) AL) (Xo 10 AK):=by
    refine Po.iff (λE=>(A6.expr AL).mono λx As AF=>?_) λE=>?_
    ·have:=AF.pre (A7 E);exact⟨this.vars,this.fit,this.lit,by have:=this.w;omega⟩
    ·have:=Ar (by simpa using E);subst this;refine⟨rfl,rfl,rfl,?_⟩;simp only[bK,dA,cM,aV,aaw];omega
   refine AD.bind λc As AF=>dY.bind λ_ At Ac=>(ih.block _ At).bind λl Av AO=>dY.bind λ_ Aw Ad=>?_;have A4:=J.at_;have a2:=I.at_;have a3:=H.w;have a4:=T.at_;have a5:=M.w;have Ax:=AF.w;have a9:=Ac.at_;have Ay:=AO.w;have Az:=Ad.at_;have e:=yI 4 V.text gF gF [a,b,c] [] [] [l] 0;refine⟨Ad.vars.trans (AO.vars.trans (Ac.vars.trans (AF.vars.trans (M.vars.trans (T.vars.trans (H.vars.trans (I.vars.trans J.vars))))))),ajp W H.fit M.fit AF.fit AO.fit,xI vW vW (by simp only[dB,H.lit,M.lit,AF.lit];rfl) rfl (by simp only[fL,AO.lit];rfl),?_⟩;simp only[dA,gJ,ahM,aV,cM,xH]at e;omega
  ·intro V s W;have AR:=nE W;unfold oC;refine en.bind λb s1 ⟨J,A'⟩=>Po.iff (λE=>?_) λE=>?_
   ·have A4:=(J E).at_;have e:=yI 9 V gF gF [] [] [] [] 0;refine⟨(J E).vars,Pq W rfl rfl rfl,rfl,?_⟩;simp only[dA,gJ,ahM,aV,xH]at e;omega
   have:=A' (by simpa using E);subst this;exact ih.iM V [] [] s1 W rfl rfl rfl rfl
  ·intro V c l s W AE A3 AB AC;have AR:=nE W;unfold iM;refine (lB AA (by decide)).bind λt s1 ⟨J,AS,AT,_⟩=>dY.bind λ_ s2 I=>(A6.expr s2).bind λx Z H=>Po.iff (λ_=>?_) λ_=>trivial;have AU:=AT.name AS;have B':=nE AU;have A4:=J.at_;have a2:=I.at_;have a3:=H.w;have AZ:=aeY c t.text;have A_:=Pm l x;refine en.bind λb Y ⟨T,AI⟩=>Po.iff (λE=>?_) λE=>?_
   ·have a4:=(T E).at_;refine (ih.iM V _ _ Y W (by simp[AE]) (EZ A3 AU) (yJ AB H.fit) (yK AC H.lit)).mono λy A2 M=>⟨M.vars.trans ((T E).vars.trans (H.vars.trans (I.vars.trans J.vars))),M.fit,M.lit,?_⟩;have a5:=M.w;omega
   ·have:=AI (by simpa using E);subst this;refine dY.bind λ_ A2 M=>?_;have a5:=M.at_;have e:=yI 9 V gF gF (l++[x]) [] (c++[t.text]) [] 0;refine⟨M.vars.trans (H.vars.trans (I.vars.trans J.vars)),Pq W (EZ A3 AU) (yJ AB H.fit) (by simp[AE]),xI vW vW (yK AC H.lit) rfl rfl,?_⟩;simp only[gJ,ahM,aV,xH]at e;omega
end
end Go.Am
end
section
namespace Go.Am
open Go
def UX(n:Int):Int:=IntKind.i64.wrap (-n)
def lz(x:Ex):Option (Int×Bool):=
 if dj x=1 then some (nQ x,false)
 else if dj x=2 then some (nQ x,true)
 else if dj x=6 then (match ic x with
  |[y]=>if dj y=1 then some (UX (nQ y),false)else none
  |_=>none)
 else none
def qV:List Ex->Option (List (Int×Bool))
 |[]=>some []
 |x::r=>match lz x with
  |some p=>(match qV r with
   |some l=>some (p::l)
   |none=>none)
  |none=>none
def oI(n:Int)(t:Bool)(line:Int):Ex:=
 if t=true then .mk 2 n [] [] [] line
 else if 0<=n then .mk 1 n [] [] [] line
 else .mk 6 0 [] [] [.mk 1 (UX n) [] [] [] line] line
def Pt(op:Int):List (Int×Bool)->Option (Int×Bool×Int)
 |[a]=>some (Al op a.1 a.2)
 |[a,b]=>if a.2=b.2 then some (FZ op a.1 b.1 a.2)else none
 |_=>none
def nj(x:Ex):Ex:=
 if dj x<6\/(lz x).isSome then x
 else match qV (ic x)with
  |none=>x
  |some l=>match Pt (dj x) l with
   |none=>x
   |some r=>if r.2.2≠0\/(r.2.1=false/\r.1= -9223372036854775808)then x else oI r.1 r.2.1 (iX x)
mutual
def dn:Ex->Ex
 | .mk op n name field sub line=>nj (.mk op n name field (de sub) line)
def de:List Ex->List Ex
 |[]=>[]
 |x::r=>dn x::de r
end
theorem py:∀l:List Ex,de l=l.map dn
 |[]=>rfl
 |x::r=>by simp[de,py r]
mutual
def vB:Sm->Sm
 | .mk op name to val conds D fields blocks line=>.mk op name (dn to) (dn val) (de conds) D fields (jL blocks) line
def ep:List Sm->List Sm
 |[]=>[]
 |x::r=>vB x::ep r
def jL:List (List Sm)->List (List Sm)
 |[]=>[]
 |b::r=>ep b::jL r
end
def foP(p:Pg):Pg:=⟨p.name,p.vars,ep p.body⟩
def F7:Vr:=⟨[],0,0,false,0,0,0,0⟩
def sJ:List Vr->Tx->Int->Int×Vr
 |[],_,_=>(0,F7)
 |v::r,s,n=>if v.name=s then (n,v)else sJ r s (n+bO v)
def cx(vs:List Vr)(s:Tx):Int×Vr:=sJ vs s 0
def cy:List Vr->Int
 |[]=>0
 |v::r=>bO v+cy r
def DY:List Pn->Tx->Nat->Option (Nat×Pn)
 |[],_,_=>none
 |p::r,s,i=>if p.name=s then some (i,p)else DY r s (i+1)
def JW:Pn:=⟨[],0,false⟩
def jM(vs:List Vr)(s f:Tx):Int×Pn:=
 if (bE vs s).isSome=true/\2<(cx vs s).2.ty/\f≠[]then
  (match DY (cG (cx vs s).2.ty) f 0 with
   |some (i,p)=>((cx vs s).1+i,p)
   |none=>(0,JW))
 else (0,JW)
def qF(k:Nat)(x:ay):ay:=if (x.op=9\/x.op=10)/\0<=x.a then {x with a:=x.a+k} else x
def ke(k:Nat)(l:List ay):List ay:=l.map (qF k)
def jn(a b:List ay):List ay:=a++ke a.length b
def yL(to:Int)(x:ay):ay:=if x.op=9/\x.a= -1 then {x with a:=to} else x
def qG(to:Int)(x:ay):ay:=if x.op=9/\x.a= -2 then {x with a:=to} else x
def ins(op a b n m:Int):ay:=⟨op,a,b,n,m⟩
mutual
def aw(vs:List Vr):Ex->List ay×Bool
 | .mk op n name field sub _=>
  if op=1\/op=2 then ([ins 1 0 0 n 0],decide (op=2))
  else if op=3 then ([ins (1+(cx vs name).2.ty) (cx vs name).1 0 0 0],decide ((cx vs name).2.ty=2))
  else if op=5 then ([ins (1+(jM vs name field).2.ty) (jM vs name field).1 0 0 0],decide ((jM vs name field).2.ty=2))
  else if op=4 then (so vs sub++[ins (3+(cx vs name).2.ty) (cx vs name).1 0 (cx vs name).2.lo (cx vs name).2.hi],decide ((cx vs name).2.ty=2))
  else ((jy vs sub).1++[ins 8 (if (jy vs sub).2=true then 1 else 0) op 0 0],decide (op=7\/12<op))
def jy(vs:List Vr):List Ex->List ay×Bool
 |[]=>([],false)
 |[x]=>aw vs x
 |x::r=>((aw vs x).1++(jy vs r).1,(jy vs r).2)
def so(vs:List Vr):List Ex->List ay
 |[]=>[]
 |x::_=>(aw vs x).1
end
mutual
def aR(h:Int):Ex->Int
 | .mk op _ _ _ sub _=>if op=1\/op=2\/op=3\/op=5 then h+1 else max (h+1) (gL h sub)
def gL(h:Int):List Ex->Int
 |[]=>0
 |x::r=>max (aR h x) (gL (h+1) r)
end
def df:List (List ay)->List (List ay)->List ay
 |_,[]=>[]
 |[],b::r=>if r=[]then b else jn (b++[ins 9 (b.length+1+(df [] r).length) 0 0 0]) (df [] r)
 |t::ts,b::r=>
  let out:=df ts r
  let part:=if r=[]then b else b++[ins 9 (b.length+1+out.length) 0 0 0]
  jn (t++[ins 10 (t.length+1+part.length) 0 0 0]++ke (t.length+1) part) out
def eS(cell:Int):List Int->List ay
 |a::b::r=>ins 14 cell 0 a b::ins 8 1 21 0 0::eS cell r
 |_=>[]
def eD(vs:List Vr)(name:Tx):List Tx->List Ex->List ay
 |f::E,x::xs=>(aw vs x).1++ins 6 (jM vs name f).1 0 0 0::eD vs name E xs
 |_,_=>[]
def vg(l:List ay):List ay:=l.map (yL l.length)
def jN(t b:List ay):List ay:=vg (ins 11 0 0 0 0::t++[ins 10 (t.length+3+b.length) 0 0 0]++ke (t.length+2) b++[ins 9 0 0 0 0])
def pz(t b:List ay):List ay:=vg (b++ins 11 0 0 0 0::t++[ins 10 0 0 0 0])
def nG(at_ cell:Int)(b:List ay):List ay:=
 vg ([ins 11 0 0 0 0,ins 13 at_ cell 0 0,ins 10 (b.length+8) 0 0 0]++ke 3 b++[ins 2 at_ 0 0 0,ins 2 (cell+1) 0 0 0,ins 8 0 8 0 0,ins 6 at_ 0 0 0,ins 9 0 0 0 0])
mutual
def dp(vs:List Vr):Sm->Int->List ay×Int
 | .mk op name to val conds D fields blocks _,c=>
  if op=1 then
   (if dj to=3 then (aw vs val).1++[ins 6 (cx vs (gT to)).1 0 0 0]
    else so vs (ic to)++((aw vs val).1++[ins 7 (cx vs (gT to)).1 0 (cx vs (gT to)).2.lo (cx vs (gT to)).2.hi]),c)
  else if op=2 then (df (conds.map λx=>(aw vs x).1) (aC vs blocks c).1,(aC vs blocks c).2)
  else if op=3 then (jn ((aw vs val).1++[ins 6 c 0 0 0]) (df (D.map λl=>ins 1 0 0 0 0::eS c l) (aC vs blocks (c+1)).1),(aC vs blocks (c+1)).2)
  else if op=4 then (jn ((jy vs conds).1++[ins 6 (c+1) 0 0 0,ins 6 c 0 0 0,ins 6 (cx vs name).1 0 0 0]) (nG (cx vs name).1 c (om vs blocks (c+2)).1),(om vs blocks (c+2)).2)
  else if op=5 then (jN (aw vs val).1 (om vs blocks c).1,(om vs blocks c).2)
  else if op=6 then (pz (aw vs val).1 (om vs blocks c).1,(om vs blocks c).2)
  else if op=7 then ([ins 9 (-1) 0 0 0],c)
  else if op=8 then ([ins 9 (-2) 0 0 0],c)
  else (eD vs name fields conds++[ins 12 (cx vs name).1 (cx vs name).2.ty 0 0],c)
def ah(vs:List Vr):List Sm->Int->List ay×Int
 |[],c=>([],c)
 |x::r,c=>(jn (jn [ins 11 0 0 0 0] (dp vs x c).1) (ah vs r (dp vs x c).2).1,(ah vs r (dp vs x c).2).2)
def aC(vs:List Vr):List (List Sm)->Int->List (List ay)×Int
 |[],c=>([],c)
 |b::r,c=>((ah vs b c).1::(aC vs r (ah vs b c).2).1,(aC vs r (ah vs b c).2).2)
def om(vs:List Vr):List (List Sm)->Int->List ay×Int
 |[],c=>([],c)
 |b::_,c=>ah vs b c
end
def mn:List Ex->Int
 |[]=>0
 |x::r=>max (aR 0 x) (mn r)
mutual
def iz:Sm->Int
 | .mk op _ to val conds D _ blocks _=>
  if op=1 then (if dj to=3 then aR 0 val else max (gL 0 (ic to)) (aR 1 val))
  else if op=2 then max (mn conds) (b7 blocks)
  else if op=3 then max (aR 0 val) (max (if D=[]then 0 else 2) (b7 blocks))
  else if op=4 then max (max (gL 0 conds) 3) (b7 blocks)
  else if op=5\/op=6 then max (aR 0 val) (b7 blocks)
  else if op=7\/op=8 then 0
  else mn conds
def bx:List Sm->Int
 |[]=>0
 |x::r=>max (iz x) (bx r)
def b7:List (List Sm)->Int
 |[]=>0
 |b::r=>max (bx b) (b7 r)
end
def zG(p:Pg):Option (List ay×Int×Int):=
 let g:=ah p.vars (ep p.body) (cy p.vars)
 if 4096<g.1.length+1\/64<bx (ep p.body)then none
 else some (g.1.map (qG g.1.length)++[ins 15 0 0 0 0],cy p.vars,g.2)
@[simp] theorem n9(k:Nat)(l:List ay):(ke k l).length=l.length:=by simp[ke]
@[simp] theorem q9(l:List ay):(vg l).length=l.length:=by simp[vg]
theorem eP(a b:List ay):(jn a b).length=a.length+b.length:=by simp[jn]
theorem Pu(k:Nat)(x:ay):(qF k x).op=x.op:=by unfold qF;split<;>rfl
theorem acd(k:Int)(x:ay):(yL k x).op=x.op:=by unfold yL;split<;>rfl
theorem ace(k:Int)(x:ay):(qG k x).op=x.op:=by unfold qG;split<;>rfl
def vh(vs:List Vr)(x:Sm)(c:Int):List ay:=jn [ins 11 0 0 0 0] (dp vs x c).1
theorem aeZ(vs:List Vr)(x:Sm)(c:Int):(vh vs x c).length=(dp vs x c).1.length+1:=by unfold vh;rw[eP];simp;omega
theorem acf{n:Int}(h: -9223372036854775808<n/\n<=9223372036854775807):UX n= -n:=by
 unfold UX;simp only[IntKind.wrap,IntKind.bits,IntKind.signed];simp;omega
theorem aoJ(b:Bool):jK b=0\/jK b=1:=by cases b<;>simp[jK]
def UY(r:Int×Bool×Int)(t:Bool):Prop:=r.2.2=0->r.2.1=t/\(t=true->r.1=0\/r.1=1)/\(-9223372036854775808<=r.1/\r.1<=9223372036854775807)
theorem Ar(t:Bool):UY og t:=λh=>by simp[og]at h
theorem m7(b:Bool):UY (jK b,true,0) true:=λ_=>by rcases aoJ b with h|h<;>simp[h]
theorem E0(z:Int):UY (zC (nF z)) false:=by
 intro h;unfold zC nF at h⊢;split<;>simp_all;all_goals omega
theorem aoK{a b:Int}(D: -9223372036854775808<=a/\a<=9223372036854775807)(h:¬(a= -9223372036854775808/\b= -1)): -9223372036854775808<=a.tdiv b/\a.tdiv b<=9223372036854775807:=by
 have J:(a.tdiv b).natAbs<=a.natAbs:=by rw[Int.natAbs_tdiv];exact Nat.div_le_self _ _
 by_cases hm:a= -9223372036854775808
 ·by_cases E:b=1
  ·subst E;simp only[Int.tdiv_one];omega
  ·by_cases M:b=0
   ·subst M;simp
   ·have I:2<=b.natAbs:=by omega
    have O:(a.tdiv b).natAbs<=a.natAbs/2:=by rw[Int.natAbs_tdiv];exact Nat.div_le_div_left I (by omega)
    omega
 ·omega
theorem aoL{a b:Int}(D: -9223372036854775808<=a/\a<=9223372036854775807): -9223372036854775808<=a.tmod b/\a.tmod b<=9223372036854775807:=by
 have J:(a.tmod b).natAbs<=a.natAbs:=by rw[Int.natAbs_tmod];exact Nat.mod_le _ _
 have I:0<=a->0<=a.tmod b:=λh=>Int.tmod_nonneg _ h;have O:a<=0->a.tmod b<=0:=λh=>by
  have:=Int.tmod_nonneg (a:= -a) b (by omega);rw[Int.neg_tmod]at this;omega
 omega
theorem ajq{a b:Int}(D: -9223372036854775808<=a/\a<=9223372036854775807):UY (tw (DR a b)) false:=by
 intro h;by_cases E:b=0
 ·simp[tw,DR,E]at h
 ·by_cases hm:a= -9223372036854775808/\b= -1
  ·simp[tw,DR,hm]at h
  ·have:=aoK D hm;simp[tw,DR,E,hm,this]
theorem ajr{a b:Int}(D: -9223372036854775808<=a/\a<=9223372036854775807):UY (tw (GQ a b)) false:=by
 intro h;by_cases E:b=0
 ·simp[tw,GQ,E]at h
 ·have:=aoL (b:=b) D;simp[tw,GQ,E,this]
def aoM(op:Int):Prop:=op=6\/(8<=op/\op<=12)\/(15<=op/\op<=18)
instance (op:Int):Decidable (aoM op):=inferInstanceAs (Decidable (_\/_))
theorem aoN{op:Int}{l:List (Int×Bool)}{r:Int×Bool×Int}(h:Pt op l=some r)(H:∀p∈l, -9223372036854775808<=p.1/\p.1<=9223372036854775807):
 UY r (!decide (op=6\/(8<=op/\op<=12))):=by
 unfold Pt at h;split at h
 ·rename_i a;cases h;have D:=H a (by simp);unfold Al;split
  ·split
   ·exact Ar _
   ·split
    ·rename_i T;subst T;exact m7 _
    ·exact Ar _
  ·split
   ·rename_i U;subst U;exact E0 _
   ·exact Ar _
 ·rename_i a b;have D:=H a (by simp);have E:=H b (by simp);split at h
  ·cases h;unfold FZ;split
   ·split
    ·exact Ar _
    ·unfold O5;split
     ·rename_i e;subst e;exact m7 _
     ·split
      ·rename_i e;have:(!decide (op=6\/(8<=op/\op<=12)))=true:=by simp;omega
       rw[this];exact m7 _
      ·split
       ·rename_i e;subst e;exact m7 _
       ·split
        ·rename_i e;subst e;exact m7 _
        ·exact Ar _
   ·unfold IP;split
    ·rename_i e;subst e;exact E0 _
    ·split
     ·rename_i e;subst e;exact E0 _
     ·split
      ·rename_i e;subst e;exact E0 _
      ·split
       ·rename_i e;subst e;exact ajq D
       ·split
        ·rename_i e;subst e;exact ajr D
        ·split
         ·rename_i e;subst e;exact m7 _
         ·split
          ·rename_i e;subst e;exact m7 _
          ·split
           ·rename_i e;subst e;exact m7 _
           ·split
            ·rename_i e;subst e;exact m7 _
            ·split
             ·rename_i e;subst e;exact m7 _
             ·split
              ·rename_i e;subst e;exact m7 _
              ·exact Ar _
  ·cases h
 ·cases h
def Kp(vs:List Vr)(x y:Ex):Prop:=bn y=true/\dG y=true/\bm vs y=bm vs x/\iX y=iX x
theorem acg{vs:List Vr}{y:Ex}{p:Int×Bool}(h:lz y=some p)(I:bn y=true)(H:dG y=true)(he:(bm vs y).e=0):
 bm vs y=jv (if p.2=true then 2 else 1)/\(-9223372036854775808<=p.1/\p.1<=9223372036854775807):=by
 obtain⟨op,n,name,field,sub,line⟩:=y;simp only[dG,Ds,aak]at H;by_cases J:op=1
 ·simp only[lz,iN,pq,J,acH,aa1]at h;subst h;simp[bm,J,H.1]
 ·by_cases U:op=2
  ·simp only[lz,iN,pq,J,U,acw,acH,aa1,Int.reduceEq]at h;subst h;simp[bm,U,H.1]
  ·by_cases V:op=6
   ·simp only[lz,iN,pq,kX,V,acw,acH,Int.reduceEq]at h;split at h
    ·rename_i z;split at h
     ·rename_i A';cases h;obtain⟨AE,A0,AF,AG,AH,AI⟩:=z;simp only[iN]at A';subst A' V;simp only[dB,dG,ak8,Ds,aak]at H;have A6:0<=A0:=by
       simp[bn,bQ,eV]at I;omega
      have M:=acf (n:=A0) ⟨by omega,by omega⟩;refine⟨?_,?_⟩
      ·simp[bm,sI,si,jv,pv,q8]
      ·simp only[pq,M];omega
     ·cases h
    ·cases h
   ·simp only[lz,iN,J,U,V,acw]at h;cases h
theorem UZ:∀{l:List Ex}{ps:List (Int×Bool)},qV l=some ps->ps.length=l.length/\∀(i:Nat) y p,l[i]?=some y->ps[i]?=some p->lz y=some p
 |[],ps,h=>by simp only[qV]at h;cases h;exact⟨rfl,λi y p h=>by simp at h⟩
 |x::r,ps,h=>by
  simp only[qV]at h;split at h
  ·rename_i p W;split at h
   ·rename_i l H;cases h;obtain⟨i1,i2⟩:=UZ H;refine⟨by simp[i1],λi y q D O=>?_⟩;cases i with
    |zero=>simp at D O;subst D O;exact W
    |succ i=>simp at D O;exact i2 i y q D O
   ·cases h
  ·cases h
theorem ajs(vs:List Vr){n:Int}{t:Bool}{line:Int}(h:t=true->n=0\/n=1)(hi: -9223372036854775808<=n/\n<=9223372036854775807)(hm:¬(t=false/\n= -9223372036854775808)):
 bn (oI n t line)=true/\dG (oI n t line)=true/\bm vs (oI n t line)=jv (if t=true then 2 else 1)/\iX (oI n t line)=line:=by
 unfold oI;cases t with
 |true=>
  have:=h rfl;refine⟨?_,?_,?_,?_⟩
  ·simp[bn,bQ,eV];omega
  ·simp[dG,dB];omega
  ·simp[bm]
  ·simp
 |false=>
  simp only[acW,acw];split
  ·rename_i A7;refine⟨?_,?_,?_,?_⟩
   ·simp[bn,bQ,eV];omega
   ·simp[dG,dB];omega
   ·simp[bm]
   ·simp
  ·rename_i A7;have A6:n≠ -9223372036854775808:=λe=>hm ⟨rfl,e⟩;have M:=acf (n:=n) ⟨by omega,by omega⟩;refine⟨?_,?_,?_,?_⟩
   ·simp[bn,bQ,eV,M];omega
   ·simp[dG,dB,M];omega
   ·simp[bm,sI,si,jv,pv,q8]
   ·simp
theorem aoO{vs:List Vr}{x:Ex}(I:bn x=true)(H:dG x=true)(he:(bm vs x).e=0):Kp vs x (nj x):=by
 have self:Kp vs x x:=⟨I,H,rfl,rfl⟩;unfold nj;split
 ·exact self
 ·rename_i A1;split
  ·exact self
  ·rename_i l A2;split
   ·exact self
   ·rename_i r A3;split
    ·exact self
    ·rename_i Y;simp only[alg,Int.not_lt]at A1 Y;obtain⟨op,n,name,field,sub,line⟩:=x;simp only[iN,kX,qy]at A1 A2 A3⊢;obtain⟨AJ,A8⟩:=UZ A2;have A4:=I;simp only[bn,Ds,aak]at A4;obtain⟨_,E,_,_,A9⟩:=A4;have A5:=H;simp only[dG,Ds]at A5;have AA:∀y∈sub,dG y=true:=by
      have:∀l:List Ex,dB l=true->∀y∈l,dG y=true:=by
       intro l;induction l with
       |nil=>intro _ y D;simp at D
       |cons z l ih=>
        intro h y D;simp only[dB,Ds]at h;rcases aaC.1 D with rfl|D
        ·exact h.1
        ·exact ih h.2 y D
      exact this sub A5.2
     have Z:bm vs (.mk op n name field sub line)=sI vs op line sub:=by
      unfold bm;rw[aab (by omega),aab (by omega)]
     have AB:∀y∈sub,bn y=true:=(kE sub).1 A9;have AC:∀y∈sub,(bm vs y).e=0:=by
      rw[Z]at he;intro y D;match sub,D,he,E with
      |[a],D,he,_=>
       simp at D;subst D;exact (kc he).1
      |[a,b],D,he,_=>
       simp at D;rcases D with rfl|rfl
       ·exact (kc he).1
       ·exact (kc he).2.1
      |a::b::c::d,D,he,E=>
       exfalso;simp only[eV]at E;split at E
       ·simp at E
       ·split at E<;>simp at E
     have AD:∀p∈l, -9223372036854775808<=p.1/\p.1<=9223372036854775807:=by
      intro p W;obtain⟨i,hi⟩:=aoU W;have AK:=(D1.1 hi).1;have D:∃y,sub[i]?=some y:=⟨sub[i]'(by omega),by simp[show i<sub.length by omega]⟩
      obtain⟨y,D⟩:=D;have hm:=aay D;exact (acg (A8 i y p D hi) (AB y hm) (AA y hm) (AC y hm)).2
     obtain⟨q1,q2,q3⟩:=aoN A3 AD (by simpa using Y.1);have T:=ajs vs (n:=r.1) (t:=r.2.1) (line:=line) (by rw[q1];exact q2) q3 (λh=>Y.2 h);refine⟨T.1,T.2.1,?_,by rw[T.2.2.2];rfl⟩;rw[T.2.2.1,q1,Z];rw[Z]at he;have key:sI vs op line sub=jv (q8 op):=by
      match sub,he,E with
      |[a],he,_=>exact (kc he).2.2.2.2
      |[a,b],he,_=>exact (kc he).2.2.2.2
      |[],he,E=>
       exfalso;simp only[eV,aaw]at E;split at E
       ·simp at E
       ·split at E
        ·simp at E
        ·omega
      |a::b::c::d,he,E=>
       exfalso;simp only[eV]at E;split at E
       ·simp at E
       ·split at E<;>simp at E
     rw[key];unfold q8;by_cases h:op=6\/(8<=op/\op<=12)<;>simp[h]
theorem E3{op n:Int}{name field:Tx}{sub:List Ex}{line:Int}(h:bn (.mk op n name field sub line)=true):sub.length=eV op/\bQ sub=true:=by
 simp only[bn,Ds,aak]at h;exact⟨h.2.1,h.2.2.2.2⟩
theorem JX{vs:List Vr}{op n:Int}{name field:Tx}{sub:List Ex}{line:Int}(H:bn (.mk op n name field sub line)=true)(he:(bm vs (.mk op n name field sub line)).e=0):∀y∈sub,(bm vs y).e=0:=by
 obtain⟨E,_⟩:=E3 H;intro y D;unfold bm at he;by_cases V:op=1\/op=2
 ·have M:sub=[]:=abO (by rw[E];unfold eV;rcases V with h|h<;>subst h<;>decide);subst M;simp at D
 ·rw[aab V]at he;by_cases W:op=3\/op=4\/op=5
  ·rw[aat W]at he;by_cases A':op=4
   ·subst A';obtain⟨z,rfl⟩:∃z,sub=[z]:=by
     match sub,E with
     |[z],_=>exact⟨z,rfl⟩
     |[],h=>simp[eV]at h
     |_::_::_,h=>simp[eV]at h
    simp at D;subst D;split at he
    ·simp[fe]at he
    ·rw[aab (by decide)]at he;split at he
     ·simp[fe]at he
     ·rw[aat rfl]at he;simp only[vA]at he;by_cases I:(bm vs y).e=0
      ·exact I
      ·rw[aat I]at he;exact absurd he I
   ·have M:sub=[]:=abO (by rw[E];unfold eV;rw[aab (by omega),aab (by omega)]);subst M;simp at D
  ·rw[aab W]at he;match sub,D,he,E with
   |[a],D,he,_=>
    simp at D;subst D;exact (kc he).1
   |[a,b],D,he,_=>
    simp at D;rcases D with rfl|rfl
    ·exact (kc he).1
    ·exact (kc he).2.1
   |a::b::c::d,D,he,E=>
    exfalso;simp only[eV]at E;split at E
    ·simp at E
    ·split at E<;>simp at E
theorem ajt{op n:Int}{name field:Tx}{sub:List Ex}{line:Int}(h:dG (.mk op n name field sub line)=true):(-9223372036854775808<=n/\n<=9223372036854775807)/\dB sub=true:=by
 simp only[dG,Ds,aak]at h;exact h
theorem yM:∀l:List Ex,dB l=true↔∀x∈l,dG x=true
 |[]=>by simp[dB]
 |x::r=>by simp[dB,yM r]
section
variable {vs:List Vr}
theorem aju{op n:Int}{name field:Tx}{sub J:List Ex}{line:Int}(T:J.length=sub.length)(h:∀(i:Nat) x y,sub[i]?=some x->J[i]?=some y->bm vs y=bm vs x/\iX y=iX x):
 bm vs (.mk op n name field J line)=bm vs (.mk op n name field sub line):=by
 unfold bm;have A0:∀t,vA vs t J=vA vs t sub:=by
  intro t;match sub,J,T,h with
  |[],[],_,_=>rfl
  |x::r,y::q,_,h=>
   obtain⟨O,U⟩:=h 0 x y rfl rfl;simp only[vA,O,U]
 have A1:sI vs op line J=sI vs op line sub:=by
  match sub,J,T,h with
  |[],[],_,_=>rfl
  |[x],[y],_,h=>
   obtain⟨O,U⟩:=h 0 x y rfl rfl;simp only[sI,O]
  |x::A2::r,y::A3::q,_,h=>
   obtain⟨O,_⟩:=h 0 x y rfl rfl;obtain⟨U,_⟩:=h 1 A2 A3 rfl rfl;simp only[sI,O,U]
 rw[A1];simp only[A0]
theorem IU:∀x:Ex,bn x=true->dG x=true->(bm vs x).e=0->Kp vs x (dn x)
 | .mk op n name field sub line,H,T,he=>by
  obtain⟨f1,f2⟩:=E3 H;obtain⟨A4,A5⟩:=ajt T;have M:=JX H he;have ih:∀y∈sub,Kp vs y (dn y):=λy D=>IU y ((kE sub).1 f2 y D) ((yM sub).1 A5 y D) (M y D);have E:(de sub).length=sub.length:=by rw[py];simp
  have A6:bn (.mk op n name field (de sub) line)=true:=by
   have A7:bQ (de sub)=true:=by
    rw[kE,py];intro y D;obtain⟨z,I,rfl⟩:=abV.1 D;exact (ih z I).1
   simp only[bn,Ds]at H⊢;refine⟨H.1,?_,H.2.2.1,H.2.2.2.1,A7⟩;rw[E];exact H.2.1
  have A8:dG (.mk op n name field (de sub) line)=true:=by
   simp only[dG,Ds,aak];refine⟨A4,?_⟩;rw[yM,py];intro y D;obtain⟨z,I,rfl⟩:=abV.1 D;exact (ih z I).2.1
  have Y:bm vs (.mk op n name field (de sub) line)=bm vs (.mk op n name field sub line):=by
   refine aju E λi x y Z D=>?_;rw[py,ab6,Z]at D;cases D;have:=ih x (aay Z);exact this.2.2
  have:=aoO (vs:=vs) A6 A8 (by rw[Y];exact he);obtain⟨A9,AA,AB,AC⟩:=this;exact⟨A9,AA,AB.trans Y,AC⟩
termination_by x=>SizeOf.sizeOf x
decreasing_by all_goals (simp_wf;have:=List.sizeOf_lt_of_mem D;omega)
end
theorem cn{a b:EL}:(dR a b).1=0↔a.1=0/\b.1=0:=by
 unfold dR;by_cases h:a.1=0
 ·rw[aab (λM=>M h)];simp[h]
 ·rw[aat h];simp[h]
theorem rE{vs:List Vr}{x:Ex}{t:Int}:(cu vs x t).1=0↔(bm vs x).e=0/\(bm vs x).t=t:=by
 unfold cu;by_cases h:(bm vs x).e=0
 ·rw[aab (λM=>M h)];by_cases E:(bm vs x).t=t
  ·rw[aab (λM=>M E)];simp[h,E]
  ·rw[aat E];simp[E]
 ·rw[aat h];simp[h]
theorem U1{x:Ex}(h:fA x=true):dn x=x:=by
 obtain⟨op,n,name,field,sub,line⟩:=x;simp only[fA,iN,pq,pr,uJ,kX,Ds]at h;obtain⟨H,E,J⟩:=h;have H:op=0:=acV H;have J:=acV J;have Y:sub=[]:=abO (by omega);subst H Y;simp[dn,de,nj]
theorem aoP{op n:Int}{name field:Tx}{sub:List Ex}{line:Int}(h:op<6):dn (.mk op n name field sub line)=.mk op n name field (de sub) line:=by
 show nj _=_;unfold nj;rw[aat (.inl (by simpa using h))]
section
variable {vs:List Vr}
theorem wj{x:Ex}{t:Int}(I:bn x=true)(D:dG x=true)(h:(cu vs x t).1=0):bn (dn x)=true/\dG (dn x)=true/\(cu vs (dn x) t).1=0:=by
 obtain⟨H,E⟩:=rE.1 h;obtain⟨A0,A1,A2,_⟩:=IU x I D H;exact⟨A0,A1,rE.2 (by rw[A2];exact⟨H,E⟩)⟩
theorem Pv{t:Int}:∀l:List Ex,bQ l=true->dB l=true->(lV vs t l).1=0->bQ (de l)=true/\dB (de l)=true/\(lV vs t (de l)).1=0
 |[],_,_,_=>⟨rfl,rfl,rfl⟩
 |x::r,I,D,h=>by
  simp only[bQ,dB,Ds]at I D;obtain⟨H,E⟩:=cn.1 h;obtain⟨O,a2,a3⟩:=wj I.1 D.1 H;obtain⟨T,U,V⟩:=Pv r I.2 D.2 E;simp only[de,bQ,dB,Ds];exact⟨⟨O,T⟩,⟨a2,U⟩,cn.2 ⟨a3,V⟩⟩
theorem U2{k line:Int}:∀(W:List Tx)(xs:List Ex)(p:List Tx),xs.length=W.length->bQ xs=true->dB xs=true->(lW vs k line W xs p).1=0->bQ (de xs)=true/\dB (de xs)=true/\(lW vs k line W (de xs) p).1=0
 |[],[],p,_,_,_,_=>⟨rfl,rfl,rfl⟩
 |f::W,x::xs,p,A3,I,D,h=>by
  simp only[bQ,dB,Ds]at I D;unfold lW at h;simp only[de,bQ,dB,Ds];unfold lW;cases Z:pt k f with
  |none=>rw[Z]at h;simp at h
  |some q=>
   rw[Z]at h;simp only at h⊢;split at h
   ·simp at h
   ·rename_i H;split at h
    ·simp at h
    ·rename_i E;obtain⟨J,A4⟩:=cn.1 h;obtain⟨O,a2,a3⟩:=wj I.1 D.1 J;obtain⟨T,U,V⟩:=U2 W xs (p++[f]) (by simpa using A3) I.2 D.2 A4;rw[aab H,aab E];exact⟨⟨O,T⟩,⟨a2,U⟩,cn.2 ⟨a3,V⟩⟩
 |[],_::_,_,D,_,_,_=>by simp at D
 |_::_,[],_,D,_,_,_=>by simp at D
theorem Pw:∀l:List (List Sm),(jL l).length=l.length
 |[]=>rfl
 |b::r=>by simp[jL,Pw r]
theorem ae1(l:List Ex):(de l).length=l.length:=by rw[py];simp
theorem ae2{x:Ex}(h:bn x=true):fA x=false:=by
 obtain⟨op,n,name,field,sub,line⟩:=x;simp only[bn,Ds,ahK,afP]at h;have:op≠0:=by
  intro e;apply h.1;omega
 simp[fA,this]
theorem arV{to val:Ex}{line:Int}(J:dj to=3\/dj to=4)(f1:bn to=true)(f2:bn val=true)(A5:dG to=true)(A6:dG val=true)(h:(yD vs to val line).1=0):
 (bn (dn to)=true/\bn (dn val)=true)/\(dG (dn to)=true/\dG (dn val)=true)/\(yD vs (dn to) (dn val) line).1=0/\dj (dn to)=dj to:=by
 have y:dn to=.mk (dj to) (nQ to) (gT to) (nR to) (de (ic to)) (iX to):=by
  obtain⟨op,n,name,field,sub,l⟩:=to;simp only[iN]at J;exact aoP (by omega)
 have A7:gT (dn to)=gT to:=by rw[y];rfl
 have A8:dj (dn to)=dj to:=by rw[y];rfl
 unfold yD at h⊢;rw[A7];cases A':bE vs (gT to)with
 |none=>rw[A']at h;simp at h
 |some v=>
  rw[A']at h;simp only at h⊢;split at h
  ·simp at h
  ·rename_i Y;rw[aab Y];obtain⟨q1,q2⟩:=cn.1 h;obtain⟨q2,q3⟩:=cn.1 q2;obtain⟨O,a2,a3,_⟩:=IU to f1 A5 q1;obtain⟨T,U,V,_⟩:=IU val f2 A6 q2;refine⟨⟨O,T⟩,⟨a2,U⟩,?_,A8⟩;rw[a3,V];exact h
end
section
variable {vs:List Vr}
mutual
theorem aoQ(I:Bool):∀s:Sm,gC s=true->qe s=true->(mu vs I s).1=0->gC (vB s)=true/\qe (vB s)=true/\(mu vs I (vB s)).1=0
 | .mk op name to val conds U fields blocks line,J,H,h=>by
  simp only[gC,Ds,aak]at J;obtain⟨AJ,AK,A0,A2,AB,Z,AL,AM,A4⟩:=J;simp only[qe,Ds]at H;obtain⟨AI,A5,AC,AN,A6⟩:=H
  --Ab Ac to be shown,from Ad parts
  have fin:(if op=1 then decide (dj (dn to)=3\/dj (dn to)=4)&&bn (dn to)else fA (dn to))=true->
   (if op=1\/op=3\/op=5\/op=6 then !fA (dn val)&&bn (dn val)else fA (dn val))=true->bQ (de conds)=true->cH (jL blocks)=true->
   dG (dn to)=true->dG (dn val)=true->dB (de conds)=true->fL (jL blocks)=true->
   (mu vs I (.mk op name (dn to) (dn val) (de conds) U fields (jL blocks) line)).1=0->
   gC (vB (.mk op name to val conds U fields blocks line))=true/\qe (vB (.mk op name to val conds U fields blocks line))=true/\(mu vs I (vB (.mk op name to val conds U fields blocks line))).1=0:=by
   intro y a2 a3 a4 a5 AO AP AQ a9;simp only[vB,gC,qe,Ds,aak,ae1,Pw];exact⟨⟨AJ,AK,y,a2,a3,Z,AL,AM,a4⟩,⟨a5,AO,AP,AN,AQ⟩,a9⟩
  have AR:¬op=1->(if op=1 then decide (dj (dn to)=3\/dj (dn to)=4)&&bn (dn to)else fA (dn to))=true/\dG (dn to)=true:=by
   intro E;rw[aab E]at A0⊢;rw[U1 A0];exact⟨A0,AI⟩
  have AD:¬(op=1\/op=3\/op=5\/op=6)->(if op=1\/op=3\/op=5\/op=6 then !fA (dn val)&&bn (dn val)else fA (dn val))=true/\dG (dn val)=true:=by
   intro E;rw[aab E]at A2⊢;rw[U1 A2];exact⟨A2,A5⟩
  have vv:(op=1\/op=3\/op=5\/op=6)->bn (dn val)=true->(if op=1\/op=3\/op=5\/op=6 then !fA (dn val)&&bn (dn val)else fA (dn val))=true:=by
   intro E M;rw[aat E,ae2 M,M];rfl
  have A9:(op=1\/op=3\/op=5\/op=6)->bn val=true:=by
   intro E;rw[aat E]at A2;simp only[Ds]at A2;exact A2.2
  unfold mu at h;by_cases E:op=1
  ·subst E;rw[aat rfl]at h;have D:bY 1 conds.length U.length fields.length blocks.length=true:=Z;simp[bY]at D;obtain⟨rfl,_,_,rfl⟩:=D;rw[aat rfl]at A0;simp only[Ds,aak]at A0;obtain⟨⟨AS,AT⟩,⟨AU,AV⟩,AW,AX⟩:=arV A0.1 A0.2 (A9 (.inl rfl)) AI A5 h;refine fin (by rw[aat rfl,AX,AS];simp[A0.1]) (vv (.inl rfl) AT) rfl rfl AU AV rfl rfl ?_;unfold mu;rw[aat rfl];exact AW
  ·rw[aab E]at h;obtain⟨t1,t2⟩:=AR E;by_cases M:op=2
   ·subst M;rw[aat rfl]at h;have D:bY 2 conds.length U.length fields.length blocks.length=true:=Z;simp[bY]at D;obtain⟨v1,v2⟩:=AD (by decide);obtain⟨V,W,O,T,AE⟩:=IV I conds blocks AB AC A4 A6 (by omega) h;refine fin t1 v1 V O t2 v2 W T ?_;unfold mu;rw[aab E,aat rfl];exact AE
   ·rw[aab M]at h;by_cases A':op=3
    ·subst A';rw[aat rfl]at h;have D:bY 3 conds.length U.length fields.length blocks.length=true:=Z;simp[bY]at D;obtain⟨rfl,_⟩:=D;obtain⟨q1,q2⟩:=cn.1 h;obtain⟨v1,v2,v3⟩:=wj (A9 (.inr (.inl rfl))) A5 q1;obtain⟨V,W,O,T,AE⟩:=IV I [] blocks rfl rfl A4 A6 (by simp) q2;refine fin t1 (vv (.inr (.inl rfl)) v1) rfl O t2 v2 rfl T ?_;unfold mu;rw[aab E,aab M,aat rfl];exact cn.2 ⟨v3,AE⟩
    ·rw[aab A']at h;by_cases A3:op=4
     ·subst A3;rw[aat rfl]at h;have D:bY 4 conds.length U.length fields.length blocks.length=true:=Z;simp[bY]at D;obtain⟨_,_,_,A7⟩:=D;obtain⟨v1,v2⟩:=AD (by decide);cases A1:bE vs name with
      |none=>rw[A1]at h;simp at h
      |some v=>
       rw[A1]at h;simp only at h;split at h
       ·simp at h
       ·rename_i g1;split at h
        ·simp at h
        ·rename_i g2;obtain⟨q1,q2⟩:=cn.1 h;obtain⟨V,W,AF⟩:=Pv conds AB AC q1;obtain⟨O,T,Y⟩:=Pz blocks A4 A6 A7 q2;refine fin t1 v1 V O t2 v2 W T ?_;unfold mu;rw[aab E,aab M,aab A',aat rfl,A1];simp only
         rw[aab g1,aab g2];exact cn.2 ⟨AF,Y⟩
     ·rw[aab A3]at h;by_cases A8:op=5
      ·subst A8;rw[aat rfl]at h;have D:bY 5 conds.length U.length fields.length blocks.length=true:=Z;simp[bY]at D;obtain⟨rfl,_,_,A7⟩:=D;obtain⟨q1,q2⟩:=cn.1 h;obtain⟨v1,v2,v3⟩:=wj (A9 (.inr (.inr (.inl rfl)))) A5 q1;obtain⟨O,T,Y⟩:=Pz blocks A4 A6 A7 q2;refine fin t1 (vv (.inr (.inr (.inl rfl))) v1) rfl O t2 v2 rfl T ?_;unfold mu;rw[aab E,aab M,aab A',aab A3,aat rfl];exact cn.2 ⟨v3,Y⟩
      ·rw[aab A8]at h;by_cases AA:op=6
       ·subst AA;rw[aat rfl]at h;have D:bY 6 conds.length U.length fields.length blocks.length=true:=Z;simp[bY]at D;obtain⟨rfl,_,_,A7⟩:=D;obtain⟨q1,q2⟩:=cn.1 h;obtain⟨v1,v2,v3⟩:=wj (A9 (.inr (.inr (.inr rfl)))) A5 q2;obtain⟨O,T,Y⟩:=Pz blocks A4 A6 A7 q1;refine fin t1 (vv (.inr (.inr (.inr rfl))) v1) rfl O t2 v2 rfl T ?_;unfold mu;rw[aab E,aab M,aab A',aab A3,aab A8,aat rfl];exact cn.2 ⟨Y,v3⟩
       ·rw[aab AA]at h;obtain⟨v1,v2⟩:=AD (by omega);by_cases AG:op=7
        ·subst AG;rw[aat rfl]at h;have D:bY 7 conds.length U.length fields.length blocks.length=true:=Z;simp[bY]at D;obtain⟨rfl,_,_,rfl⟩:=D;refine fin t1 v1 rfl rfl t2 v2 rfl rfl ?_;unfold mu;rw[aab E,aab M,aab A',aab A3,aab A8,aab AA,aat rfl];exact h
        ·rw[aab AG]at h;by_cases AY:op=9
         ·subst AY;rw[aat rfl]at h;have D:bY 9 conds.length U.length fields.length blocks.length=true:=Z;simp[bY]at D;obtain⟨AZ,_,rfl⟩:=D;cases A1:bE vs name with
          |none=>rw[A1]at h;simp at h
          |some v=>
           rw[A1]at h;simp only at h;split at h
           ·simp at h
           ·rename_i g1;obtain⟨V,W,AF⟩:=U2 fields conds [] AZ AB AC h;refine fin t1 v1 V rfl t2 v2 W rfl ?_;unfold mu;rw[aab E,aab M,aab A',aab A3,aab A8,aab AA,aab AG,aat rfl,A1];simp only
            rw[aab g1];exact AF
         ·have A_:op=8:=by omega
          subst A_;have D:bY 8 conds.length U.length fields.length blocks.length=true:=Z;simp[bY]at D;obtain⟨rfl,_,_,rfl⟩:=D;refine fin t1 v1 rfl rfl t2 v2 rfl rfl ?_;unfold mu;simp
theorem wm(I:Bool):∀l:List Sm,fG l=true->iZ l=true->(fm vs I l).1=0->fG (ep l)=true/\iZ (ep l)=true/\(fm vs I (ep l)).1=0
 |[],_,_,_=>⟨rfl,rfl,rfl⟩
 |x::r,J,H,h=>by
  simp only[fG,iZ,Ds]at J H;obtain⟨E,M⟩:=cn.1 h;obtain⟨y,a2,a3⟩:=aoQ I x J.1 H.1 E;obtain⟨O,T,Y⟩:=wm I r J.2 H.2 M;simp only[ep,fG,iZ,Ds];exact⟨⟨y,O⟩,⟨a2,T⟩,cn.2 ⟨a3,Y⟩⟩
theorem IV(I:Bool):∀(cs:List Ex)(l:List (List Sm)),bQ cs=true->dB cs=true->cH l=true->fL l=true->cs.length<=l.length->(gD vs I cs l).1=0->
 bQ (de cs)=true/\dB (de cs)=true/\cH (jL l)=true/\fL (jL l)=true/\(gD vs I (de cs) (jL l)).1=0
 |[],[],_,_,_,_,_,_=>⟨rfl,rfl,rfl,rfl,rfl⟩
 |[],b::r,V,W,J,H,_,h=>by
  simp only[cH,fL,Ds]at J H;obtain⟨E,M⟩:=cn.1 h;obtain⟨y,a2,a3⟩:=wm I b J.1 H.1 E;obtain⟨_,_,O,T,Y⟩:=IV I [] r rfl rfl J.2 H.2 (by simp) M;simp only[de,jL,bQ,dB,cH,fL,Ds];exact⟨trivial,trivial,⟨y,O⟩,⟨a2,T⟩,cn.2 ⟨a3,Y⟩⟩
 |c::cs,b::r,V,W,J,H,AH,h=>by
  simp only[cH,fL,Ds]at J H;simp only[bQ,dB,Ds]at V W;obtain⟨Aa,A'⟩:=cn.1 h;obtain⟨E,M⟩:=cn.1 A';obtain⟨q1,q2,q3⟩:=wj V.1 W.1 Aa;obtain⟨y,a2,a3⟩:=wm I b J.1 H.1 E;obtain⟨d1,d2,O,T,Y⟩:=IV I cs r V.2 W.2 J.2 H.2 (by simpa using AH) M;simp only[de,jL,bQ,dB,cH,fL,Ds];exact⟨⟨q1,d1⟩,⟨q2,d2⟩,⟨y,O⟩,⟨a2,T⟩,cn.2 ⟨q3,cn.2 ⟨a3,Y⟩⟩⟩
 |_::_,[],_,_,_,_,AH,_=>by simp at AH
theorem Pz:∀(l:List (List Sm)),cH l=true->fL l=true->l.length=1->(uK vs l).1=0->cH (jL l)=true/\fL (jL l)=true/\(uK vs (jL l)).1=0
 |[b],J,H,_,h=>by
  simp only[cH,fL,ak8]at J H;obtain⟨y,a2,a3⟩:=wm true b J H h;simp only[jL,cH,fL,ak8];exact⟨y,a2,a3⟩
 |[],_,_,H,_=>by simp at H
 |_::_::_,_,_,H,_=>by simp at H
end
end
inductive MC(vs:List Vr)(lp:Bool):Sm->Prop
 |asg {to val:Ex} {line:Int} {v:Vr} (D:dj to=3\/dj to=4) (T:bE vs (gT to)=some v) (V:¬v.sec=1) (AF:bn to=true) (AG:(bm vs to).e=0) (A2:bn val=true) (AH:(bm vs val).e=0) (h:(bm vs val).t=(bm vs to).t):MC vs lp (.mk 1 [] to val [] [] [] [] line)
 |cnd {to val:Ex} {conds:List Ex} {blocks:List (List Sm)} {line:Int} (D:fA to=true) (E:fA val=true) (A5:bQ conds=true) (O:1<=conds.length) (I:conds.length<=blocks.length) (H:blocks.length<=conds.length+1) (A0:cH blocks=true) (h:(gD vs lp conds blocks).1=0):MC vs lp (.mk 2 [] to val conds [] [] blocks line)
 |cas {to val:Ex} {A':List (List Int)} {blocks:List (List Sm)} {line:Int} (D:fA to=true) (A2:bn val=true) (A4:(cu vs val 1).1=0) (I:A'.length<=blocks.length) (H:blocks.length<=A'.length+1) (AI:A'.all xB=true) (A0:cH blocks=true) (h:(gD vs lp [] blocks).1=0):MC vs lp (.mk 3 [] to val [] A' [] blocks line)
 |cnt {name:Tx} {to val x y z:Ex} {b:List Sm} {line:Int} {v:Vr} (A6:fK name=true) (D:fA to=true) (E:fA val=true) (T:bE vs name=some v) (V:¬v.sec=1) (Y:v.arr=false) (A1:v.ty=1) (AJ:bn x=true) (AK:(cu vs x 1).1=0) (AL:bn y=true) (AM:(cu vs y 1).1=0) (AN:bn z=true) (AO:(cu vs z 1).1=0) (A0:fG b=true) (h:(fm vs true b).1=0):MC vs lp (.mk 4 name to val [x,y,z] [] [] [b] line)
 |whl {to val:Ex} {b:List Sm} {line:Int} (D:fA to=true) (A2:bn val=true) (A4:(cu vs val 2).1=0) (A0:fG b=true) (h:(fm vs true b).1=0):MC vs lp (.mk 5 [] to val [] [] [] [b] line)
 |rep {to val:Ex} {b:List Sm} {line:Int} (D:fA to=true) (A2:bn val=true) (A4:(cu vs val 2).1=0) (A0:fG b=true) (h:(fm vs true b).1=0):MC vs lp (.mk 6 [] to val [] [] [] [b] line)
 |ext {to val:Ex} {line:Int} (D:fA to=true) (E:fA val=true) (h:lp=true):MC vs lp (.mk 7 [] to val [] [] [] [] line)
 |ret {to val:Ex} {line:Int} (D:fA to=true) (E:fA val=true):MC vs lp (.mk 8 [] to val [] [] [] [] line)
 |cal {name:Tx} {to val:Ex} {conds:List Ex} {fields:List Tx} {line:Int} {v:Vr} (A6:fK name=true) (D:fA to=true) (E:fA val=true) (T:bE vs name=some v) (A1:2<v.ty) (A5:bQ conds=true) (AP:conds.length=fields.length) (A3:fields.all fK=true) (h:(lW vs v.ty line fields conds []).1=0):MC vs lp (.mk 9 name to val conds [] fields [] line)
theorem xK{α:Type}{l:List α}(h:l.length=0):l=[]:=abO h
theorem JY{α:Type}{l:List α}(h:l.length=1):∃a,l=[a]:=by
 match l,h with
 |[a],_=>exact⟨a,rfl⟩
theorem av0{α:Type}{l:List α}(h:l.length=3):∃a b c,l=[a,b,c]:=by
 match l,h with
 |[a,b,c],_=>exact⟨a,b,c,rfl⟩
theorem Za{vs:List Vr}{b:List Sm}(h:(uK vs [b]).1=0):(fm vs true b).1=0:=by simpa [uK]using h
theorem U3{vs:List Vr}{lp:Bool}{x:Sm}(A3:gC x=true)(h:(mu vs lp x).1=0):MC vs lp x:=by
 obtain⟨op,name,to,val,conds,A',fields,blocks,line⟩:=x;simp only[gC,Ds]at A3;obtain⟨A7,J,D,E,Z,M,A8,A9,W⟩:=A3;simp only[aak]at A7;unfold mu at h;have AA:op=1\/op=2\/op=3\/op=4\/op=5\/op=6\/op=7\/op=8\/op=9:=by omega
 rcases AA with rfl|rfl|rfl|rfl|rfl|rfl|rfl|rfl|rfl
 ·simp[bY]at J D E M h;obtain⟨rfl,rfl,rfl,rfl⟩:=M;subst J;unfold yD at h;cases T:bE vs (gT to)with
  |none=>rw[T]at h;simp at h
  |some v=>
   rw[T]at h;simp only at h;by_cases V:v.sec=1
   ·simp[V]at h
   ·rw[aab V]at h;obtain⟨O,I⟩:=cn.1 h;obtain⟨I,H⟩:=cn.1 I;refine .asg D.1 T V D.2 O E.2 I ?_;apply Classical.byContradiction;intro hh;rw[aat hh]at H;simp at H
 ·simp[bY]at J D E M h;obtain⟨O,I,H,U,AB⟩:=M;subst J I H;exact .cnd D E Z (by omega) (by omega) (by omega) W h
 ·simp[bY]at J D E M h;obtain⟨O,H,U,AB⟩:=M;subst J O H;obtain⟨g1,g2⟩:=cn.1 h;exact .cas D E.2 g1 (by omega) (by omega) A9 W g2
 ·simp[bY]at J D E M h;obtain⟨O,I,H,U⟩:=M;obtain⟨x,y,z,rfl⟩:=av0 O;obtain⟨b,rfl⟩:=JY U;subst I H;cases T:bE vs name with
  |none=>rw[T]at h;simp at h
  |some v=>
   rw[T]at h;simp only at h;by_cases V:v.sec=1
   ·simp[V]at h
   ·rw[aab V]at h;by_cases Y:v.arr=true\/¬v.ty=1
    ·rw[aat Y]at h;simp at h
    ·rw[aab Y]at h;simp only[alg,Bool.not_eq_true,ak0]at Y;obtain⟨g1,g2⟩:=cn.1 h;simp only[lV]at g1;obtain⟨AC,g1⟩:=cn.1 g1;obtain⟨AD,g1⟩:=cn.1 g1;obtain⟨AE,g1⟩:=cn.1 g1;simp only[bQ,Ds]at Z;simp only[cH,Ds]at W;exact .cnt J D E T V Y.1 Y.2 Z.1 AC Z.2.1 AD Z.2.2.1 AE W.1 (Za g2)
 ·simp[bY]at J D E M h;obtain⟨O,I,H,U⟩:=M;obtain⟨b,rfl⟩:=JY U;subst J O I H;obtain⟨g1,g2⟩:=cn.1 h;simp only[cH,Ds]at W;exact .whl D E.2 g1 W.1 (Za g2)
 ·simp[bY]at J D E M h;obtain⟨O,I,H,U⟩:=M;obtain⟨b,rfl⟩:=JY U;subst J O I H;obtain⟨g1,g2⟩:=cn.1 h;simp only[cH,Ds]at W;exact .rep D E.2 g2 W.1 (Za g1)
 ·simp[bY]at J D E M h;obtain⟨O,I,H,U⟩:=M;subst J O I H U;refine .ext D E ?_;cases lp with
  |true=>rfl
  |false=>simp at h
 ·simp[bY]at J D E M h;obtain⟨O,I,H,U⟩:=M;subst J O I H U;exact .ret D E
 ·simp[bY]at J D E M h;obtain⟨O,I,H⟩:=M;subst I H;cases T:bE vs name with
  |none=>rw[T]at h;simp at h
  |some v=>
   rw[T]at h;simp only at h;by_cases A1:v.ty<=2
   ·rw[aat A1]at h;simp at h
   ·rw[aab A1]at h;exact .cal J D E T (by omega) Z O (abX.2 (by simpa using A8)) h
end Go.Am
end
section
namespace Go.Am
theorem LK{E:Int->Nat}{cells last:Int}:∀{ins:List ay}{i0:Nat},px E cells last i0 ins=true↔∀i x,ins[i]?=some x->dg E cells last ((i0+i:Nat):Int) x=true
 |[],i0=>by simp[px]
 |y::r,i0=>by
  constructor
  ·intro h i x D;exact yH h i x D
  ·intro h;simp only[px,Ds];refine⟨by simpa using h 0 y rfl,LK.2 (λi x D=>?_)⟩;have:=h (i+1) x (by simpa using D);rw[show i0+1+i=i0+(i+1) by omega];exact this
def At(i:Nat)(x:ay):Bool:=decide (x.op=9\/x.op=10)&&decide (x.a.toNat=i)
theorem JZ(i:Nat):∀(l:List ay)(T:List Bool),i<T.length->
 (l.foldl (λl x=>if x.op=9\/x.op=10 then l.set x.a.toNat true else l) T).getD i false=(T.getD i false||l.any (At i))
 |[],T,h=>by simp
 |x::r,T,h=>by
  simp only[ahQ,List.any_cons];by_cases e:x.op=9\/x.op=10
  ·rw[aat e,JZ i r _ (by simpa using h)];have:(T.set x.a.toNat true).getD i false=(T.getD i false||At i x):=by
    simp only[acb,List.getElem?_set,At,e,decide_true,Bool.true_and];by_cases H:x.a.toNat=i
    ·subst H;simp[h]
    ·simp[H]
   rw[this,Bool.or_assoc]
  ·rw[aab e,JZ i r _ h];simp[At,e]
theorem ach{ins:List ay}{i:Nat}(h:i<ins.length):(oH ins).getD i false=ins.any (At i):=by
 unfold oH;rw[JZ i ins _ (by simpa using h)];simp[acb,h]
theorem PB{succ:Nat->List Nat}{N:Nat}{r:Nat->Nat}(h:∀i<N,∀j∈succ i,j<N/\r j<r i):∀i<N,Ends succ i:=by
 have key:∀(m i:Nat),r i<m->i<N->Ends succ i:=by
  intro m;induction m with
  |zero=>intro i hi;omega
  |succ m ih=>
   intro i hi Y;exact .mk i (λj D=>ih j (by have:=(h i Y j D).2;omega) (h i Y j D).1)
 exact λi hi=>key _ i (Nat.lt_succ_self _) hi
def fI(x:ay):Prop:=x.op=9\/x.op=10
instance (x:ay):Decidable (fI x):=inferInstanceAs (Decidable (_\/_))
structure Good(H:Int->Nat)(cells:Int)(l:List ay)(r:Nat->Nat)(st:Nat->List Bool):Prop where
 len:1<=l.length/\l.length<=4096
 last:∀x,l[l.length-1]?=some x->x.op=15
 form:∀(i:Nat) x,l[i]?=some x->dg H cells ((l.length:Int)-1) i x=true
 st0:st 0=[]
 mv:∀(i:Nat) x,l[i]?=some x->cm x (st i)=some (st (i+1))
 Lv:∀(i:Nat) x,l[i]?=some x->fI x->st x.a.toNat=[]
 av1:∀(i:Nat) x,l[i]?=some x->x.op≠11->∀j∈Bz l i,r j<r i
theorem Good.tgt{H cells l r st}(h:Good H cells l r st){i:Nat}{x:ay}(E:l[i]?=some x)(D:fI x):0<=x.a/\x.a.toNat<l.length:=by
 have:=h.form i x E;unfold dg at this;have A':=h.len.1;rcases D with e|e
 ·simp[e]at this;omega
 ·simp[e]at this;omega
theorem Good.ajw{H cells l r st}(h:Good H cells l r st){i:Nat}{x:ay}(E:l[i]?=some x):x.op=15↔i+1=l.length:=by
 constructor
 ·intro e;have:=h.form i x E;unfold dg at this;simp[e]at this;have:=h.len.1;omega
 ·intro e;exact h.last x (by rw[show l.length-1=i by omega];exact E)
theorem PC(Lv:List Bool)(st:Nat->List Bool):∀(l:List ay)(i:Nat),(∀k x,l[k]?=some x->(Lv.getD (i+k) false=true->st (i+k)=[])/\cm x (st (i+k))=some (st (i+k+1)))->gN Lv i l (st i)=true
 |[],i,_=>rfl
 |x::r,i,h=>by
  have J:=h 0 x rfl;simp only[ah0]at J;unfold gN;rw[aab,J.2]
  ·exact PC Lv st r (i+1) (λk y M=>by
    have:=h (k+1) y (by simpa using M);rw[show i+(k+1)=i+1+k by omega]at this;exact this)
  ·intro O;simp only[Ds,ahK,List.isEmpty_eq_false_iff]at O;exact O.2 (J.1 O.1)
theorem ae3{H cells l r st}(h:Good H cells l r st){i j:Nat}(hi:i<l.length)(D:j∈Bz l i):j<l.length:=by
 have E:l[i]?=some l[i]:=by simp[hi]
 unfold Bz at D;rw[E]at D;simp only at D;have A0:=h.ajw E;by_cases T:l[i].op=9
 ·have:=h.tgt E (.inl T);simp[T]at D;omega
 ·by_cases U:l[i].op=10
  ·have:=h.tgt E (.inr U);simp[U]at D;omega
  ·by_cases V:l[i].op=15
   ·simp[V]at D
   ·simp[T,U,V]at D;have:¬(i+1=l.length):=λh=>V (A0.2 h);omega
theorem arW{H:Int->Nat}{l:List ay}{vars cells:Int}{r:Nat->Nat}{st:Nat->List Bool}(A7:0<=cells/\cells<=8192/\0<=vars/\vars<=cells)(h:Good H cells l r st):An H l vars cells=true:=by
 have Z:mZ H l vars cells=true:=by
  simp only[mZ,IQ,Ds,aak];have A':=h.len;refine⟨⟨⟨⟨⟨⟨⟨by omega,by omega⟩,by omega⟩,by omega⟩,by omega⟩,by omega⟩,?_⟩,LK.2 (λi x E=>by simpa using h.form i x E)⟩;unfold uM;rw[an9,abJ (by omega)];have:=h.last l[l.length-1] (by rw[abJ (by omega)]);simpa using this
 have A1:gN (oH l) 0 l []=true:=by
  have:=PC (oH l) st l 0 (λk x E=>by
   refine⟨λW=>?_,by simpa using h.mv k x E⟩;simp only[ahI]at W⊢;have A2:=(D1.1 E).1;rw[ach A2,List.any_eq_true]at W;obtain⟨y,M,I⟩:=W;unfold At at I;simp only[Ds,aak]at I;obtain⟨i,hi,rfl⟩:=List.getElem_of_mem M;have:=h.Lv i l[i] (by simp[hi]) I.1;rw[I.2]at this;exact this)
  rw[h.st0]at this;exact this
 have A3:rounds (gp l) (l.length+1) (List.range l.length) (List.replicate l.length 0)=false:=by
  cases A4:rounds (gp l) (l.length+1) (List.range l.length) (List.replicate l.length 0)with
  |false=>rfl
  |true=>
   obtain⟨i,hi,A5⟩:=(ab4 Z).1 A4;refine absurd (PB (N:=l.length) (r:=r) (λi hi j D=>?_) i hi) A5;unfold yG at D;split at D
   ·simp at D
   ·rename_i A6;refine⟨ae3 h hi D,h.av1 i l[i] (by simp[hi]) (λe=>A6 ?_) j D⟩;unfold jg;rw[abJ hi];simpa using e
 unfold An;rw[Z,A1,A3];rfl
end Go.Am
end
section
namespace Go.Am
open Go
theorem PD{s:Tx}{v:Vr}:∀{l:List Vr}{n:Int},bE l s=some v->(sJ l s n).2=v
 |x::r,n,h=>by
  unfold bE at h;unfold sJ;split at h
  ·rename_i e;cases h;rw[aat e]
  ·rename_i e;rw[aab e];exact PD h
theorem kj{vs:List Vr}{s:Tx}{v:Vr}(h:bE vs s=some v):(cx vs s).2=v:=PD h
theorem LL{s:Tx}{v:Vr}:∀{l:List Vr}{n:Int},(∀v∈l,0<=bO v)->bE l s=some v->n<=(sJ l s n).1/\(sJ l s n).1+bO v<=n+cy l
 |x::r,n,I,h=>by
  have W:=I x (by simp);have Y:0<=cy r:=by
   have:∀l:List Vr,(∀v∈l,0<=bO v)->0<=cy l:=by
    intro l;induction l with
    |nil=>intro _;simp[cy]
    |cons y l ih=>intro h;have:=ih (λv H=>h v (by simp[H]));have:=h y (by simp);simp only[cy];omega
   exact this r (λv H=>I v (by simp[H]))
  unfold bE at h;unfold sJ;simp only[cy];split at h
  ·rename_i e;cases h;rw[aat e];simp only;omega
  ·rename_i e;rw[aab e];have:=LL (n:=n+bO x) (λv H=>I v (by simp[H])) h;omega
theorem yN{vs:List Vr}{s:Tx}{v:Vr}(I:∀v∈vs,0<=bO v)(h:bE vs s=some v):0<=(cx vs s).1/\(cx vs s).1+bO v<=cy vs:=by
 have:=LL (n:=0) I h;simp only[Int.zero_add]at this;exact this
theorem ajx:∀x∈pnT,∀p∈x.2,p.ty=1\/p.ty=2:=by decide
theorem LM{k:Int}{p:Pn}:∀{l:List (Int×List Pn)},p∈By l k->∃x∈l,p∈x.2
 |(a,q)::r,h=>by
  unfold By at h;split at h
  ·exact⟨(a,q),by simp,h⟩
  ·obtain⟨x,E,D⟩:=LM h;exact⟨x,by simp[E],D⟩
theorem aci{k:Int}{p:Pn}(h:p∈cG k):p.ty=1\/p.ty=2:=by
 obtain⟨x,E,D⟩:=LM h;exact ajx x E p D
theorem PE{f:Tx}{p:Pn}:∀{l:List Pn}{i:Nat},xA l f=some p->f≠[]/\p∈l/\∃j,DY l f i=some (j,p)/\i<=j/\j<i+l.length
 |q::r,i,h=>by
  unfold xA at h;unfold DY;split at h
  ·rename_i e;cases h;exact⟨e.2,by simp,i,by rw[aat e.1],by omega,by simp⟩
  ·rename_i e;obtain⟨E,D,j,J,Z,O⟩:=PE (i:=i+1) h;exact⟨E,by simp[D],j,by rw[aab (λe'=>e ⟨e',E⟩)];exact J,by omega,by simp;omega⟩
theorem Au{vs:List Vr}{s f:Tx}{v:Vr}{p:Pn}(H:bE vs s=some v)(T:2<v.ty)(U:pt v.ty f=some p):
 (jM vs s f).2=p/\p∈cG v.ty/\∃j:Nat,(jM vs s f).1=(cx vs s).1+j/\j<(cG v.ty).length:=by
 obtain⟨E,D,j,J,_,O⟩:=PE (i:=0) U;have V:=kj H;unfold jM;rw[H,V,aat ⟨rfl,T,E⟩,J];exact⟨rfl,D,j,rfl,by omega⟩
def cd:List ay->List Bool->Option (List Bool)
 |[],S=>some S
 |x::r,S=>(cm x S).bind (cd r)
theorem du:∀(a b:List ay)(S:List Bool),cd (a++b) S=(cd a S).bind (cd b)
 |[],b,S=>rfl
 |x::a,b,S=>by
  simp only[af3,cd];cases cm x S with
  |none=>rfl
  |some M=>exact du a b M
theorem acj{f:ay->ay}(h:∀x,f x=x\/((x.op=9\/x.op=10)/\(f x).op=x.op))(x:ay)(S:List Bool):cm (f x) S=cm x S:=by
 rcases h x with e|⟨E,D⟩
 ·rw[e]
 ·rcases E with e|e
  ·have D:(f x).op=9:=by rw[D,e]
   simp[cm,D,e]
  ·have D:(f x).op=10:=by rw[D,e]
   simp[cm,D,e]
theorem tA{f:ay->ay}(h:∀x,f x=x\/((x.op=9\/x.op=10)/\(f x).op=x.op)):∀(l:List ay)(S:List Bool),cd (l.map f) S=cd l S
 |[],S=>rfl
 |x::r,S=>by
  simp only[abR,cd,acj h];cases cm x S with
  |none=>rfl
  |some M=>exact tA h r M
theorem ack(k:Nat)(x:ay):qF k x=x\/((x.op=9\/x.op=10)/\(qF k x).op=x.op):=by
 unfold qF;split
 ·rename_i h;exact .inr ⟨h.1,rfl⟩
 ·exact .inl rfl
theorem PF(k:Int)(x:ay):yL k x=x\/((x.op=9\/x.op=10)/\(yL k x).op=x.op):=by
 unfold yL;split
 ·rename_i h;exact .inr ⟨.inl h.1,rfl⟩
 ·exact .inl rfl
theorem PG(k:Int)(x:ay):qG k x=x\/((x.op=9\/x.op=10)/\(qG k x).op=x.op):=by
 unfold qG;split
 ·rename_i h;exact .inr ⟨.inl h.1,rfl⟩
 ·exact .inl rfl
theorem J0(k:Nat)(l:List ay)(S:List Bool):cd (ke k l) S=cd l S:=tA (ack k) l S
theorem m8{t:Bool}{S:List Bool}(h:S.length<64):eO t S=some (S++[t]):=by unfold eO;rw[aat h]
theorem D0(S:List Bool)(f:Bool):jo 1 false (S++[f])=some S:=by
 unfold jo;rw[aab (by simp)];simp
theorem IX(S:List Bool):jo 1 true (S++[true])=some S:=by
 unfold jo;rw[aab (by simp)];simp
theorem ae5(S:List Bool)(f g:Bool):jo 2 false (S++[f]++[g])=some S:=by
 unfold jo;rw[aab (by simp)];simp
theorem ahW(S:List Bool):jo 2 true (S++[true]++[true])=some S:=by
 unfold jo;rw[aab (by simp)];simp
inductive XC(vs:List Vr):Ex->Prop
 |num {n:Int} {line:Int} (h:0<=n):XC vs (.mk 1 n [] [] [] line)
 |vu {n:Int} {line:Int} (h:n=0\/n=1):XC vs (.mk 2 n [] [] [] line)
 |var {name:Tx} {line:Int} {v:Vr} (E:bE vs name=some v) (A5:v.arr=false) (M:v.ty<=2):XC vs (.mk 3 0 name [] [] line)
 |idx {name:Tx} {line:Int} {v:Vr} {y:Ex} (E:bE vs name=some v) (A5:v.arr=true) (M:v.ty<=2) (A':bn y=true) (A0:(bm vs y).e=0) (ty:(bm vs y).t=1):XC vs (.mk 4 0 name [] [y] line)
 |fld {name field:Tx} {line:Int} {v:Vr} {q:Pn} (E:bE vs name=some v) (M:2<v.ty) (V:pt v.ty field=some q) (W:fK field=true):XC vs (.mk 5 0 name field [] line)
 |one {op line:Int} {y:Ex} (A6:op=6\/op=7) (A':bn y=true) (A0:(bm vs y).e=0) (ty:(bm vs y).t=pv op (bm vs y).t):XC vs (.mk op 0 [] [] [y] line)
 |two {op line:Int} {y z:Ex} (A6:8<=op/\op<=21) (A':bn y=true) (A0:(bm vs y).e=0) (AE:bn z=true) (AF:(bm vs z).e=0) (ty:(bm vs y).t=pv op (bm vs y).t) (AG:(bm vs z).t=pv op (bm vs y).t):XC vs (.mk op 0 [] [] [y,z] line)
theorem J1{vs:List Vr}{x:Ex}(W:bn x=true)(he:(bm vs x).e=0):XC vs x:=by
 obtain⟨op,n,name,field,sub,line⟩:=x;simp only[bn,Ds,aak,ahK,afP]at W;obtain⟨A1,J,H,D,I⟩:=W;simp only[alg,not_and]at A1;obtain⟨A7,A8,A9,AH,AI⟩:=A1;unfold bm at he;by_cases Y:op=1\/op=2
 ·rw[aab (by omega)]at H D;simp only[aak]at H D;subst H D;have O:sub=[]:=xK (by rw[J];unfold eV;rcases Y with h|h<;>subst h<;>decide);subst O;rcases Y with h|h
  ·subst h;exact .num (by have:=A7 rfl;omega)
  ·subst h;have:=A8 rfl;exact .vu (by omega)
 ·rw[aab Y]at he;have AA:n=0:=by
   have:=A9 (by omega);simpa using this
  subst AA;by_cases Z:op=3\/op=4\/op=5
  ·rw[aat Z]at he;rw[aat Z]at H;cases E:bE vs name with
   |none=>rw[E]at he;simp[fe]at he
   |some v=>
    rw[E]at he;simp only at he;by_cases A2:op=5
    ·subst A2;rw[aat rfl]at he D;by_cases M:v.ty<=2
     ·rw[aat M]at he;simp[fe]at he
     ·rw[aab M]at he;have O:sub=[]:=xK (by rw[J];decide);subst O;cases V:pt v.ty field with
      |none=>rw[V]at he;simp[fe]at he
      |some q=>exact .fld E (by omega) V D
    ·rw[aab A2]at he D;simp only[aak]at D;subst D;by_cases T:v.arr≠decide (op=4)\/2<v.ty
     ·rw[aat T]at he;simp[fe]at he
     ·rw[aab T]at he;simp only[alg,ne_eq,ak0]at T;by_cases AB:op=4
      ·subst AB;rw[aat rfl]at he;obtain⟨y,rfl⟩:=JY (l:=sub) (by rw[J];decide);simp only[bQ,Ds]at I;simp only[vA]at he;by_cases U:(bm vs y).e=0
       ·rw[aab (by simpa using U)]at he;by_cases A3:(bm vs y).t=1
        ·exact .idx E (by simpa using T.1) (by omega) I.1 U A3
        ·rw[aat A3]at he;simp[fe]at he
       ·rw[aat U]at he;exact absurd he U
      ·have AC:op=3:=by omega
       subst AC;have O:sub=[]:=xK (by rw[J];decide);subst O;exact .var E (by simpa using T.1) (by omega)
  ·rw[aab Z]at he H;rw[aab (by omega)]at D;simp only[aak]at H D;subst H D;by_cases A4:op=6\/op=7
   ·obtain⟨y,rfl⟩:=JY (l:=sub) (by rw[J];unfold eV;rcases A4 with h|h<;>subst h<;>decide);simp only[bQ,Ds]at I;simp only[sI]at he;obtain⟨g1,g2,g3,g4,g5⟩:=kc he;exact .one A4 I.1 g1 g3
   ·have AD:sub.length=2:=by rw[J];unfold eV;rw[aab (by omega),aat (by omega)]
    match sub,AD with
    |[y,z],_=>
     simp only[bQ,Ds]at I;simp only[sI]at he;obtain⟨g1,g2,g3,g4,g5⟩:=kc he;exact .two (by omega) I.1 g1 I.2.1 g2 g3 g4
theorem mo(vs:List Vr)(x:Ex):1<=(aw vs x).1.length:=by
 obtain⟨op,n,name,field,sub,line⟩:=x;unfold aw;split
 ·simp
 ·split
  ·simp
  ·split
   ·simp
   ·split
    ·simp
    ·simp
def mw(n:Nat)(x:ay):ay:=if x.op=9\/x.op=10 then {x with a:=if 0<=x.a then x.a+n else 0} else x
def cU(n:Nat)(l:List ay):List ay:=l.map (mw n)
theorem Mv{n:Nat}{a:Int}(h:0<=a):mw n (ins 9 a 0 0 0)=ins 9 (a+n) 0 0 0:=by simp[mw,ins,h]
theorem D2{n:Nat}{a:Int}(h:0<=a):mw n (ins 10 a 0 0 0)=ins 10 (a+n) 0 0 0:=by simp[mw,ins,h]
@[simp] theorem pW(n:Nat)(l:List ay):(cU n l).length=l.length:=by simp[cU]
theorem tB(n:Nat)(a b:List ay):cU n (a++b)=cU n a++cU n b:=by simp[cU]
@[simp] theorem Av(n:Nat):cU n []=[]:=rfl
theorem rh(n:Nat)(x:ay)(l:List ay):cU n (x::l)=mw n x::cU n l:=rfl
theorem aoY(n k:Nat)(x:ay):mw n (qF k x)=mw (n+k) x:=by
 obtain⟨op,a,b,c,d⟩:=x;unfold mw qF;by_cases h:op=9\/op=10
 ·by_cases U:0<=a
  ·simp only[h,U,and_self,acH,ay.mk.injEq,ala,aoz];rw[aat (by omega)];omega
  ·simp only[h,U,and_false,acw,acH]
 ·simp only[h,false_and,acw]
theorem D3(n k:Nat)(l:List ay):cU n (ke k l)=cU (n+k) l:=by
 unfold cU ke;rw[List.map_map];congr 1;funext x;exact aoY n k x
theorem PH(n:Nat)(a b:List ay):cU n (jn a b)=cU n a++cU (n+a.length) b:=by rw[jn,tB,D3]
def Flat(l:List ay):Prop:=∀x∈l,x.op≠9/\x.op≠10
theorem Flat.cU{l:List ay}(h:Flat l)(n:Nat):Am.cU n l=l:=by
 unfold Am.cU;conv=>rhs;rw[<-List.map_id l]
 refine aoh λx D=>?_;have:=h x D;simp[mw,this.1,this.2]
theorem Flat.app{a b:List ay}(Y:Flat a)(Z:Flat b):Flat (a++b):=λx D=>(aa0.1 D).elim (Y x) (Z x)
theorem Flat.nil:Flat []:=λ_ h=>by simp at h
theorem Flat.one{x:ay}(h:x.op≠9/\x.op≠10):Flat [x]:=λy H=>by simp at H;subst H;exact h
theorem Flat.cons{x:ay}{l:List ay}(h:x.op≠9/\x.op≠10)(A':Flat l):Flat (x::l):=λy H=>by
 rcases aaC.1 H with rfl|H
 ·exact h
 ·exact A' y H
def cN(k:Int):Nat->List ay->List Int
 |_,[]=>[]
 |n,x::r=>if x.op=9/\x.a=k then (n:Int)::cN k (n+1) r else cN k (n+1) r
theorem kZ(k:Int):∀(a b:List ay)(n:Nat),cN k n (a++b)=cN k n a++cN k (n+a.length) b
 |[],b,n=>by simp[cN]
 |x::a,b,n=>by
  simp only[af3,cN,kZ k a b (n+1),aan];rw[show n+1+a.length=n+(a.length+1) by omega];split<;>simp
theorem tC{k:Int}{l:List ay}(h:Flat l)(n:Nat):cN k n l=[]:=by
 induction l generalizing n with
 |nil=>rfl
 |cons x r ih=>
  simp only[cN];rw[aab (λhh=>(h x (by simp)).1 hh.1)];exact ih (λy H=>h y (by simp[H])) _
theorem PI{k:Int}{f:ay->ay}(h:∀x,((f x).op=9/\(f x).a=k)↔(x.op=9/\x.a=k)):∀(l:List ay)(n:Nat),cN k n (l.map f)=cN k n l
 |[],n=>rfl
 |x::r,n=>by
  simp only[abR,cN,PI h r];by_cases D:x.op=9/\x.a=k
  ·rw[aat D,aat ((h x).2 D)]
  ·rw[aab D,aab (λhh=>D ((h x).1 hh))]
theorem Mw{k:Int}(J:k<0)(j:Nat)(l:List ay)(n:Nat):cN k n (ke j l)=cN k n l:=by
 refine PI (λx=>?_) l n;unfold qF;split
 ·rename_i h;simp only;omega
 ·exact aoR
theorem Mx{k:Int}(J:k<0)(a b:List ay)(n:Nat):cN k n (jn a b)=cN k n a++cN k (n+a.length) b:=by rw[jn,kZ,Mw J]
def kI(k to:Int)(x:ay):ay:=if x.op=9/\x.a=k then {x with a:=to} else x
theorem aoZ{k to:Int}(h:to≠k):∀(l:List ay)(n:Nat),cN k n (l.map (kI k to))=[]
 |[],n=>rfl
 |x::r,n=>by
  simp only[abR,cN,aoZ h r];rw[aab];unfold kI;split
  ·rintro ⟨_,hh⟩;exact h hh
  ·assumption
theorem Zb{k T to:Int}(A0:to≠T)(A1:k≠T)(l:List ay)(n:Nat):cN T n (l.map (kI k to))=cN T n l:=by
 refine PI (λx=>?_) l n;unfold kI;split
 ·rename_i h;simp only
  constructor
  ·rintro ⟨_,hh⟩;exact absurd hh A0
  ·rintro ⟨_,hh⟩;exact absurd (h.2.symm.trans hh) A1
 ·exact aoR
def setAt(l:List ay)(i:Int)(v:Int):List ay:=l.modify i.toNat λx=>{x with a:=v}
def ld(l:List ay)(ps:List Int)(v:Int):List ay:=ps.foldl (λl i=>setAt l i v) l
@[simp] theorem acm(l:List ay)(i v:Int):(setAt l i v).length=l.length:=by simp[setAt]
@[simp] theorem IY:∀(ps:List Int)(l:List ay)(v:Int),(ld l ps v).length=l.length
 |[],l,v=>rfl
 |i::r,l,v=>by
  show (ld (setAt l i v) r v).length=_;rw[IY r];simp
theorem uQ(pre:List ay)(x:ay)(post:List ay)(v:Int):setAt (pre++x::post) pre.length v=pre++{x with a:=v}::post:=by
 unfold setAt;rw[Int.toNat_natCast];induction pre with
 |nil=>rfl
 |cons y r ih=>simp only[af3,aan,List.modify_succ_cons,ih]
theorem tZ(l:List ay)(i:Int)(r:List Int)(v:Int):ld l (i::r) v=ld (setAt l i v) r v:=rfl
theorem arX{n:Nat}{k to:Int}{x:ay}(h:x.op=9/\x.a=k)(M:0<=to)(J:k<0):({mw n x with a:=to+n}:ay)=mw n (kI k to x):=by
 obtain⟨op,a,b,c,d⟩:=x;obtain⟨rfl,rfl⟩:=h;simp[mw,kI,M]
theorem uR{k to:Int}(J:k<0)(M:0<=to)(base:Nat):∀(l pre post:List ay)(n:Nat),pre.length=n->ld (pre++cU base l++post) (cN k n l) (to+base)=pre++cU base (l.map (kI k to))++post
 |[],pre,post,n,h=>by simp[cN,ld]
 |x::r,pre,post,n,h=>by
  have ih:=uR J M base r;simp only[cN,abR,rh];split
  ·rename_i D;rw[tZ];have e:pre++mw base x::cU base r++post=pre++mw base x::(cU base r++post):=by simp
   rw[e,<-h,uQ,arX D M J];have:=ih (pre++[mw base (kI k to x)]) post (pre.length+1) (by simp);simpa using this
  ·rename_i D;have O:kI k to x=x:=by unfold kI;rw[aab D]
   rw[O];have:=ih (pre++[mw base x]) post (n+1) (by simp[h]);simpa using this
def lZ(E:Int):Nat->List (List ay)->List (List ay)->List ay
 |_,_,[]=>[]
 |n,[],b::r=>if r=[]then cU n b else cU n b++ins 9 E 0 0 0::lZ E (n+b.length+1) [] r
 |n,t::ts,b::r=>
  if r=[]then t++ins 10 (n+t.length+1+b.length) 0 0 0::cU (n+t.length+1) b
  else t++ins 10 (n+t.length+2+b.length) 0 0 0::(cU (n+t.length+1) b++ins 9 E 0 0 0::lZ E (n+t.length+2+b.length) ts r)
theorem Aw(E:Int):∀(n:Nat)(ts bs:List (List ay)),(lZ E n ts bs).length=(df ts bs).length
 |_,_,[]=>by simp[lZ,df]
 |n,[],b::r=>by
  simp only[lZ,df];split
  ·simp
  ·simp[Aw E _ [] r,eP];omega
 |n,t::ts,b::r=>by
  simp only[lZ,df];split
  ·rename_i h;subst h;simp[eP,df]
  ·simp[Aw E _ ts r,eP];omega
theorem PJ:∀(n:Nat)(ts bs:List (List ay)),(∀t∈ts,Flat t)->∀E:Int,E=n+(df ts bs).length->lZ E n ts bs=cU n (df ts bs)
 |n,_,[],_,_,_=>by simp[lZ,df]
 |n,[],b::r,_,E,I=>by
  simp only[lZ,df]at I⊢;split
  ·rfl
  ·rename_i h;rw[aab h]at I;rw[PH,tB];have e:E=((n+b.length+1:Nat):Int)+(df [] r).length:=by rw[I];simp[eP];omega
   rw[PJ (n+b.length+1) [] r (by simp) E e];have A2:mw n (ins 9 (b.length+1+(df [] r).length) 0 0 0)=ins 9 E 0 0 0:=by
    rw[Mv (by omega)];congr 1;omega
   have O:cU n [ins 9 (b.length+1+(df [] r).length) 0 0 0]=[ins 9 E 0 0 0]:=by rw[rh,A2];rfl
   rw[O];simp[abY]
 |n,t::ts,b::r,V,E,I=>by
  have W:Flat t:=V t (by simp);simp only[lZ,df]at I⊢;rw[PH];by_cases h:r=[]
  ·subst h;simp only[acH,tB,D3,W.cU,df,Av,afV,rh];have e:mw n (ins 10 (t.length+1+b.length) 0 0 0)=ins 10 (n+t.length+1+b.length) 0 0 0:=by
    rw[D2 (by omega)];congr 1;omega
   rw[e];simp[abY]
  ·simp only[aab h]at I⊢;have e:E=((n+t.length+2+b.length:Nat):Int)+(df ts r).length:=by rw[I];simp[eP];omega
   rw[PJ (n+t.length+2+b.length) ts r (λt M=>V t (by simp[M])) E e];simp only[tB,D3,W.cU,rh,Av,aam,aan,aaw,n9];have A3:mw n (ins 10 (t.length+1+(b.length+(0+1):Nat)) 0 0 0)=ins 10 (n+t.length+2+b.length) 0 0 0:=by
    rw[D2 (by omega)];congr 1;omega
   have O:mw (n+(t.length+1)) (ins 9 (b.length+1+(df ts r).length) 0 0 0)=ins 9 E 0 0 0:=by
    rw[Mv (by omega)];congr 1;omega
   rw[A3,O,show n+(t.length+(0+1)+(b.length+(0+1)))=n+t.length+2+b.length by omega];simp[abY]
theorem av2{k to:Int}(I:k<0)(D:0<=to)(j:Nat)(x:ay):kI k (to+j) (qF j x)=qF j (kI k to x):=by
 obtain⟨op,a,b,c,d⟩:=x;unfold kI qF;by_cases h:op=9/\a=k
 ·obtain⟨rfl,rfl⟩:=h;have A0:¬0<=a:=by omega
  simp[A0,D]
 ·by_cases y:(op=9\/op=10)/\0<=a
  ·have:¬(op=9/\a+(j:Int)=k):=by omega
   simp[h,y,this]
  ·simp[h,y]
theorem ahY{k to:Int}(I:k<0)(D:0<=to)(j:Nat)(l:List ay):(ke j l).map (kI k (to+j))=ke j (l.map (kI k to)):=by
 unfold ke;rw[List.map_map,List.map_map];congr 1;funext x;exact av2 I D j x
theorem acn{l:List ay}(h:Flat l)(k to:Int):l.map (kI k to)=l:=by
 conv=>rhs;rw[<-List.map_id l]
 refine aoh λx A1=>?_;have:=h x A1;simp[kI,this.1]
theorem yO{k to:Int}{x:ay}(h:x.op=9->x.a≠k):kI k to x=x:=by
 unfold kI;rw[aab];exact λhh=>h hh.1 hh.2
theorem wo(l:List ay):vg l=l.map (kI (-1) l.length):=rfl
theorem G4{n:Nat}{x:ay}(h:x.op≠9/\x.op≠10):mw n x=x:=by simp[mw,h.1,h.2]
theorem Zc{out t b:List ay}(D:Flat t){n:Nat}(M:out.length=n){H:Int}(W:H=n+t.length+3+b.length):
 ld (out++(ins 11 0 0 0 0::t++(ins 10 H 0 0 0::cU (n+t.length+2) b++[ins 9 n 0 0 0]))) (cN (-1) (n+t.length+2) b) H=out++cU n (jN t b):=by
 have T:=uR (k:= -1) (to:=b.length+1) (by decide) (by omega) (n+t.length+2) b (out++(ins 11 0 0 0 0::t++[ins 10 H 0 0 0])) [ins 9 n 0 0 0] (n+t.length+2) (by simp;omega);have O:((b.length:Int)+1)+((n+t.length+2:Nat):Int)=H:=by rw[W];omega
 rw[O]at T;have U:out++(ins 11 0 0 0 0::t++(ins 10 H 0 0 0::cU (n+t.length+2) b++[ins 9 n 0 0 0]))=out++(ins 11 0 0 0 0::t++[ins 10 H 0 0 0])++cU (n+t.length+2) b++[ins 9 n 0 0 0]:=by simp
 rw[U,T];unfold jN;rw[wo];have Y:((ins 11 0 0 0 0::t++[ins 10 (t.length+3+b.length) 0 0 0]++ke (t.length+2) b++[ins 9 0 0 0 0]).length:Int)=((b.length:Int)+1)+((t.length+2:Nat):Int):=by simp;omega
 rw[Y];simp only[ah4,abR,ahM,acn D,ahY (show (-1:Int)<0 by decide) (show 0<=(b.length:Int)+1 by omega),tB,rh,Av,D.cU,D3];rw[yO (by simp[ins]),yO (by simp[ins]),yO (by simp[ins]),G4 (by simp[ins]),D2 (by omega),Mv (by omega)];have J:ins 10 (t.length+3+b.length+n) 0 0 0=ins 10 H 0 0 0:=by congr 1;omega
 rw[J,show n+(t.length+2)=n+t.length+2 by omega];simp
theorem aco{k:Int}(I:k<0)(A':k≠ -1){t b:List ay}(D:Flat t)(n:Nat):cN k n (jN t b)=cN k (n+t.length+2) b:=by
 unfold jN;rw[wo,Zb (by omega) (by omega)];have O:ins 11 0 0 0 0::t++[ins 10 (t.length+3+b.length) 0 0 0]++ke (t.length+2) b++[ins 9 0 0 0 0]=[ins 11 0 0 0 0]++(t++([ins 10 (t.length+3+b.length) 0 0 0]++(ke (t.length+2) b++[ins 9 0 0 0 0]))):=by simp
 rw[O,kZ];rw[tC (Flat.one (by simp[ins])),kZ,tC D,kZ,kZ,Mw I];have e:∀m,cN k m [ins 10 (t.length+3+b.length) 0 0 0]=[]:=λm=>by simp[cN,ins]
 have J:∀m,cN k m [ins 9 0 0 0 0]=[]:=λm=>by simp[cN,ins];omega
 rw[e,J];simp only[afR,afV,aan,aaw];congr 1;omega
theorem PK(l:List ay)(n:Nat):cN (-1) n (vg l)=[]:=aoZ (by omega) l n
theorem ae7{out t b:List ay}(D:Flat t){n:Nat}(M:out.length=n){H:Int}(W:H=n+b.length+t.length+2):
 ld (out++(cU n b++(ins 11 0 0 0 0::t++[ins 10 n 0 0 0]))) (cN (-1) n b) H=out++cU n (pz t b):=by
 have T:=uR (k:= -1) (to:=b.length+t.length+2) (by decide) (by omega) n b out (ins 11 0 0 0 0::t++[ins 10 n 0 0 0]) n M;have O:((b.length:Int)+t.length+2)+(n:Int)=H:=by rw[W];omega
 rw[O]at T;rw[<-acD,T];unfold pz;rw[wo];have Y:((b++ins 11 0 0 0 0::t++[ins 10 0 0 0 0]).length:Int)=(b.length:Int)+t.length+2:=by simp;omega
 rw[Y];simp only[ah4,abR,ahM,acn D,tB,rh,Av,D.cU];rw[yO (by simp[ins]),yO (by simp[ins]),G4 (by simp[ins]),D2 (by omega)];simp
theorem ajy{k:Int}(I:k<0)(A':k≠ -1){t b:List ay}(D:Flat t)(n:Nat):cN k n (pz t b)=cN k n b:=by
 unfold pz;rw[wo,Zb (by omega) (by omega)];have O:b++ins 11 0 0 0 0::t++[ins 10 0 0 0 0]=b++([ins 11 0 0 0 0]++(t++[ins 10 0 0 0 0])):=by simp
 rw[O,kZ,kZ];rw[tC (Flat.one (by simp[ins])),kZ,tC D];have e:∀m,cN k m [ins 10 0 0 0 0]=[]:=λm=>by simp[cN,ins]
 rw[e];simp
theorem ae8{out b:List ay}{at_ cell:Int}{n:Nat}(M:out.length=n){H:Int}(W:H=n+b.length+8):
 ld (out++(ins 11 0 0 0 0::ins 13 at_ cell 0 0::ins 10 H 0 0 0::cU (n+3) b++[ins 2 at_ 0 0 0,ins 2 (cell+1) 0 0 0,ins 8 0 8 0 0,ins 6 at_ 0 0 0,ins 9 n 0 0 0])) (cN (-1) (n+3) b) H=out++cU n (nG at_ cell b):=by
 have T:=uR (k:= -1) (to:=b.length+5) (by decide) (by omega) (n+3) b (out++[ins 11 0 0 0 0,ins 13 at_ cell 0 0,ins 10 H 0 0 0]) [ins 2 at_ 0 0 0,ins 2 (cell+1) 0 0 0,ins 8 0 8 0 0,ins 6 at_ 0 0 0,ins 9 n 0 0 0] (n+3) (by simp[M]);have O:((b.length:Int)+5)+((n+3:Nat):Int)=H:=by rw[W];omega
 rw[O]at T;have U:out++(ins 11 0 0 0 0::ins 13 at_ cell 0 0::ins 10 H 0 0 0::cU (n+3) b++[ins 2 at_ 0 0 0,ins 2 (cell+1) 0 0 0,ins 8 0 8 0 0,ins 6 at_ 0 0 0,ins 9 n 0 0 0])=out++[ins 11 0 0 0 0,ins 13 at_ cell 0 0,ins 10 H 0 0 0]++cU (n+3) b++[ins 2 at_ 0 0 0,ins 2 (cell+1) 0 0 0,ins 8 0 8 0 0,ins 6 at_ 0 0 0,ins 9 n 0 0 0]:=by simp
 rw[U,T];unfold nG;rw[wo];have Y:(([ins 11 0 0 0 0,ins 13 at_ cell 0 0,ins 10 (b.length+8) 0 0 0]++ke 3 b++[ins 2 at_ 0 0 0,ins 2 (cell+1) 0 0 0,ins 8 0 8 0 0,ins 6 at_ 0 0 0,ins 9 0 0 0 0]).length:Int)=((b.length:Int)+5)+((3:Nat):Int):=by simp;omega
 rw[Y];simp only[ah4,abR,ahM,ahY (show (-1:Int)<0 by decide) (show 0<=(b.length:Int)+5 by omega),tB,rh,Av,D3];have V:∀x:ay,(x.op≠9/\x.op≠10)->∀to,mw n (kI (-1) to x)=x:=λx h to=>by rw[yO (λhh=>absurd hh h.1),G4 h]
 have A2:kI (-1) (b.length+5+((3:Nat):Int)) (ins 10 (b.length+8) 0 0 0)=ins 10 (b.length+8) 0 0 0:=yO (by simp[ins]);have A3:kI (-1) (b.length+5+((3:Nat):Int)) (ins 9 0 0 0 0)=ins 9 0 0 0 0:=yO (by simp[ins]);rw[A2,A3,V _ (by simp[ins]),V (ins 13 at_ cell 0 0) (by simp[ins]),V (ins 2 at_ 0 0 0) (by simp[ins]),V (ins 2 (cell+1) 0 0 0) (by simp[ins]),V (ins 8 0 8 0 0) (by simp[ins]),V (ins 6 at_ 0 0 0) (by simp[ins]),D2 (by omega),Mv (by omega)];have J:ins 10 (b.length+8+n) 0 0 0=ins 10 H 0 0 0:=by congr 1;omega
 rw[J];simp
theorem ajz{k:Int}(I:k<0)(A':k≠ -1){b:List ay}{at_ cell:Int}(n:Nat):cN k n (nG at_ cell b)=cN k (n+3) b:=by
 unfold nG;rw[wo,Zb (by omega) (by omega)];rw[kZ,kZ,Mw I];have e:∀m,cN k m [ins 11 0 0 0 0,ins 13 at_ cell 0 0,ins 10 (b.length+8) 0 0 0]=[]:=λm=>by simp[cN,ins]
 have J:∀m,cN k m [ins 2 at_ 0 0 0,ins 2 (cell+1) 0 0 0,ins 8 0 8 0 0,ins 6 at_ 0 0 0,ins 9 0 0 0 0]=[]:=λm=>by simp[cN,ins];omega
 rw[e,J];simp
def gG:Nat->List (List ay)->List (List ay)->List Int
 |_,_,[]=>[]
 |n,[],b::r=>if r=[]then []else ((n+b.length:Nat):Int)::gG (n+b.length+1) [] r
 |n,t::ts,b::r=>if r=[]then []else ((n+t.length+1+b.length:Nat):Int)::gG (n+t.length+2+b.length) ts r
def yP(k:Int):Nat->List (List ay)->List (List ay)->List Int
 |_,_,[]=>[]
 |n,[],b::r=>cN k n b++(if r=[]then []else yP k (n+b.length+1) [] r)
 |n,t::ts,b::r=>cN k (n+t.length+1) b++(if r=[]then []else yP k (n+t.length+2+b.length) ts r)
theorem J2(E:Int):∀(n:Nat)(ts bs:List (List ay))(pre:List ay),pre.length=n->ld (pre++lZ 0 n ts bs) (gG n ts bs) E=pre++lZ E n ts bs
 |n,_,[],pre,M=>by simp[lZ,gG,ld]
 |n,[],b::r,pre,M=>by
  simp only[lZ,gG];split
  ·rfl
  ·rw[tZ];have U:pre++(cU n b++ins 9 0 0 0 0::lZ 0 (n+b.length+1) [] r)=(pre++cU n b)++ins 9 0 0 0 0::lZ 0 (n+b.length+1) [] r:=by simp
   have J:((n+b.length:Nat):Int)=((pre++cU n b).length:Int):=by simp;omega
   rw[U,J,uQ];have ih:=J2 E (n+b.length+1) [] r (pre++cU n b++[ins 9 E 0 0 0]) (by simp;omega);simp only[acD,aoS]at ih⊢;exact ih
 |n,t::ts,b::r,pre,M=>by
  simp only[lZ,gG];split
  ·rfl
  ·rw[tZ];have U:pre++(t++ins 10 (n+t.length+2+b.length) 0 0 0::(cU (n+t.length+1) b++ins 9 0 0 0 0::lZ 0 (n+t.length+2+b.length) ts r))=(pre++(t++ins 10 (n+t.length+2+b.length) 0 0 0::cU (n+t.length+1) b))++ins 9 0 0 0 0::lZ 0 (n+t.length+2+b.length) ts r:=by simp
   have J:((n+t.length+1+b.length:Nat):Int)=((pre++(t++ins 10 (n+t.length+2+b.length) 0 0 0::cU (n+t.length+1) b)).length:Int):=by simp;omega
   rw[U,J,uQ];have ih:=J2 E (n+t.length+2+b.length) ts r (pre++(t++ins 10 (n+t.length+2+b.length) 0 0 0::cU (n+t.length+1) b)++[ins 9 E 0 0 0]) (by simp;omega);simp only[acD,af3,aoS]at ih⊢;exact ih
theorem IZ{k:Int}(I:k<0):∀(n:Nat)(ts bs:List (List ay)),(∀t∈ts,Flat t)->cN k n (df ts bs)=yP k n ts bs
 |n,_,[],_=>by simp[df,yP,cN]
 |n,[],b::r,Z=>by
  simp only[df,yP];split
  ·simp
  ·rw[Mx I,kZ,IZ I _ [] r (by simp)];have e:∀m,cN k m [ins 9 (b.length+1+(df [] r).length) 0 0 0]=[]:=λm=>by simp[cN,ins];omega
   rw[e];simp[abY]
 |n,t::ts,b::r,Z=>by
  have A4:Flat t:=Z t (by simp);simp only[df,yP];rw[Mx I,kZ,kZ,tC A4,Mw I,IZ I _ ts r (λt D=>Z t (by simp[D]))];have e:∀m a,cN k m [ins 10 a 0 0 0]=[]:=λm a=>by simp[cN,ins]
  rw[e];by_cases h:r=[]
  ·subst h;simp[yP,abY]
  ·simp only[aab h,kZ];have J:∀m,cN k m [ins 9 (b.length+1+(df ts r).length) 0 0 0]=[]:=λm=>by simp[cN,ins];omega
   rw[J];simp only[afR,afV,aam,aan,aaw,n9];rw[show n+(t.length+(0+1))=n+t.length+1 by omega,show n+(t.length+(0+1)+(b.length+(0+1)))=n+t.length+2+b.length by omega]
theorem ajA{pre:List ay}{n:Nat}(M:pre.length=n){ts bs:List (List ay)}(Z:∀t∈ts,Flat t):ld (pre++lZ 0 n ts bs) (gG n ts bs) (n+(df ts bs).length)=pre++cU n (df ts bs):=by
 rw[J2 _ n ts bs pre M,PJ n ts bs Z _ rfl]
theorem rF{v:Vr}(h:dN v=true):0<=bO v:=by
 simp only[dN,Ds]at h;obtain⟨_,_,h,_⟩:=h;unfold bO;split
 ·rename_i D;rw[aat D]at h;have:=acV h;omega
 ·split<;>omega
def D4(k:Int):Nat:=(cG k).length
def yQ(cells:Int)(x:ay):Prop:=1<=x.op/\x.op<=8/\dg D4 cells 0 0 x=true
theorem lf{cells a n:Int}(Ab:0<=a)(A':0<=n)(A0:a+n<=cells):gU cells a n=true:=by
 unfold gU;simp only[Ds,aak];omega
theorem PL{op n:Int}{name field:Tx}{sub:List Ex}{line:Int}(h:bn (.mk op n name field sub line)=true):1<=op/\op<=21:=by
 simp only[bn,Ds,ahK,afP]at h;have:=h.1;omega
section
variable {vs:List Vr} {cells:Int} (A3:∀v∈vs,dN v=true) (AO:cy vs<=cells)
include A3 AO
theorem rG:∀(x:Ex)(S:List Bool),bn x=true->(bm vs x).e=0->aR S.length x<=64->
 (∃f,cd (aw vs x).1 S=some (S++[f])/\((bm vs x).t=2->f=true))/\(aw vs x).2=decide ((bm vs x).t=2)/\((bm vs x).t=1\/(bm vs x).t=2)/\∀y∈(aw vs x).1,yQ cells y
 | .mk op n name field sub line,S,A1,he,H=>by
  obtain⟨E,AP⟩:=E3 A1;have Ac:=PL A1;have AA:=JX A1 he;have AQ:∀v∈vs,0<=bO v:=λv I=>rF (A3 v I);have ih:∀y∈sub,∀S:List Bool,aR S.length y<=64->_:=λy D S H=>rG y S ((kE sub).1 AP y D) (AA y D) H;unfold aR at H;unfold aw;have Y:bm vs (.mk op n name field sub line)=bm vs (.mk op n name field sub line):=rfl;conv at Y=>rhs;unfold bm
  rw[Y]at he⊢;clear Y;by_cases A4:op=1\/op=2
  ·have hh:S.length<64:=by
    rw[aat (by omega)]at H;omega
   simp only[aat A4];refine⟨⟨decide (n=0)||decide (n=1),?_,?_⟩,rfl,by simp[jv];exact A4,?_⟩
   ·simp[cd,cm,ins,m8 hh];rfl
   ·intro A';have A':op=2:=A';subst A';simp[bn]at A1;simp only[ahR,aak];omega
   ·intro y D;simp at D;subst D;simp[yQ,ins,dg]
  ·simp only[aab A4]at he⊢;by_cases Z:op=3\/op=4\/op=5
   ·simp only[aat Z]at he⊢;cases I:bE vs name with
    |none=>rw[I]at he;simp[fe]at he
    |some v=>
     rw[I]at he;simp only at he⊢;have AB:=kj I;have AC:=A3 v (rD I).1;have Ad:=yN AQ I;have A5:=AC;simp only[dN,Ds]at A5;by_cases A2:op=5
     ·subst A2;have hh:S.length<64:=by
       rw[aat (by omega)]at H;omega
      simp only[aat]at he⊢;by_cases AD:v.ty<=2
      ·rw[aat AD]at he;simp[fe]at he
      ·rw[aab AD]at he⊢;cases AE:pt v.ty field with
       |none=>rw[AE]at he;simp[fe]at he
       |some p=>
        obtain⟨q1,q2,j,q3,A6⟩:=Au I (by omega) AE;have AR:=aci q2;have AF:bO v=(cG v.ty).length:=by
         unfold bO;have U:¬v.arr=true:=by
          intro AS;have M:=A5.2.2.1;rw[aat AS]at M;have:=acV M;omega
         rw[aab U,aat (by omega)]
        simp only[show ¬((5:Int)=3) by decide,acw,q1];have J:gU cells (jM vs name field).1 1=true:=lf (by rw[q3];omega) (by omega) (by rw[q3];omega);rcases AR with e|e
        ·refine⟨⟨false,?_,λh=>by simp[jv,e]at h⟩,akl.2 aoR,.inl e,?_⟩
         ·simp[cd,cm,ins,e,m8 hh]
         ·intro y D;simp at D;subst D;simp[yQ,ins,dg,e,J]
        ·refine⟨⟨true,?_,λ_=>rfl⟩,akl.2 aoR,.inr e,?_⟩
         ·simp[cd,cm,ins,e,m8 hh]
         ·intro y D;simp at D;subst D;simp[yQ,ins,dg,e,J]
     ·simp only[aab A2]at he⊢;by_cases A7:v.arr≠decide (op=4)\/2<v.ty
      ·rw[aat A7]at he;simp[fe]at he
      ·simp only[aab A7]at he⊢;have AG:v.arr=decide (op=4):=by
        cases Ae:v.arr<;>cases Af:decide (op=4)<;>simp_all
       have Ag:¬2<v.ty:=λh=>A7 (.inr h);have AH:v.ty=1\/v.ty=2:=by
        rcases UQ AC with h|h
        ·exact h
        ·omega
       by_cases M:op=4
       ·subst M;simp only[aat,show ¬((4:Int)=3) by decide,acw]at he⊢;obtain⟨z,rfl⟩:∃z,sub=[z]:=by
         match sub,E with
         |[z],_=>exact⟨z,rfl⟩
         |[],h=>simp[eV]at h
         |_::_::_,h=>simp[eV]at h
        rw[aab (by omega)]at H;simp only[gL]at H;obtain⟨⟨f,i1,_⟩,_,_,i4⟩:=ih z (by simp) S (by omega);have AT:=AA z (by simp);have Y:vA vs v.ty [z]=jv v.ty:=by
         simp only[vA]at he⊢;rw[aab (by simpa using AT)]at he⊢;split at he
         ·simp[fe]at he
         ·rename_i AU;rw[aab AU]
        rw[Y];have U:v.arr=true:=by simpa using AG
        have O:=A5.2.2.1;rw[aat U]at O;have O:=acV O;have AF:bO v=v.hi-v.lo+1:=by unfold bO;rw[aat U]
        have J:gU cells (cx vs name).1 (v.hi-v.lo+1)=true:=lf (by omega) (by omega) (by omega);have hh:S.length<64:=by omega
        simp only[so,AB];rcases AH with e|e
        ·refine⟨⟨false,?_,λh=>by simp[jv,e]at h⟩,akl.2 aoR,.inl e,?_⟩
         ·rw[du,i1];simp[cd,cm,ins,e,D0,m8 hh]
         ·intro y D;rcases aa0.1 D with D|D
          ·exact i4 y D
          ·simp at D;subst D;simp[yQ,ins,dg,GR,e,J];omega
        ·refine⟨⟨true,?_,λ_=>rfl⟩,akl.2 aoR,.inr e,?_⟩
         ·rw[du,i1];simp[cd,cm,ins,e,D0,m8 hh]
         ·intro y D;rcases aa0.1 D with D|D
          ·exact i4 y D
          ·simp at D;subst D;simp[yQ,ins,dg,GR,e,J];omega
       ·have A0:op=3:=by omega
        subst A0;have hh:S.length<64:=by
         rw[aat (by omega)]at H;omega
        simp only[aat,aab M,AB]at he⊢;have U:¬v.arr=true:=by simp[AG]
        have AF:bO v=1:=by unfold bO;rw[aab U,aab (by omega)]
        have J:gU cells (cx vs name).1 1=true:=lf (by omega) (by omega) (by omega);rcases AH with e|e
        ·refine⟨⟨false,?_,λh=>by simp[jv,e]at h⟩,akl.2 aoR,.inl e,?_⟩
         ·simp[cd,cm,ins,e,m8 hh]
         ·intro y D;simp at D;subst D;simp[yQ,ins,dg,e,J]
        ·refine⟨⟨true,?_,λ_=>rfl⟩,akl.2 aoR,.inr e,?_⟩
         ·simp[cd,cm,ins,e,m8 hh]
         ·intro y D;simp at D;subst D;simp[yQ,ins,dg,e,J]
   ·have A0:¬op=3:=λh=>Z (.inl h);have M:¬op=4:=λh=>Z (.inr (.inl h));have A2:¬op=5:=λh=>Z (.inr (.inr h));simp only[aab Z,aab A0,aab M,aab A2]at he⊢;rw[aab (by omega)]at H;have hh:S.length<64:=by omega
    match sub,E,ih,he,H with
    |[a],E,ih,he,H=>
     have AV:op=6\/op=7:=by
      simp only[eV]at E;split at E
      ·omega
      ·split at E<;>simp at E
     simp only[gL]at H;obtain⟨⟨f,i1,i2⟩,i3,i4,i5⟩:=ih a (by simp) S (by omega);obtain⟨_,_,q3,_,A8⟩:=kc he;simp only[sI]at he⊢;simp only[A8,jy];rcases AV with e|e
     ·subst e;have V:(bm vs a).t=1:=by rw[q3];rfl
      have T:(aw vs a).2=false:=by rw[i3,V];rfl
      simp only[T,acW,acw,acH];refine⟨⟨false,?_,λh=>by simp[jv,q8]at h⟩,rfl,.inl rfl,?_⟩
      ·rw[du,i1];simp[cd,cm,ins,D0,m8 hh]
      ·intro y D;rcases aa0.1 D with D|D
       ·exact i5 y D
       ·simp at D;subst D;simp[yQ,ins,dg,vU]
     ·subst e;have V:(bm vs a).t=2:=by rw[q3];rfl
      have T:(aw vs a).2=true:=by rw[i3,V];rfl
      obtain rfl:=i2 V;simp only[T,acW,acw,acH];refine⟨⟨true,?_,λ_=>rfl⟩,rfl,.inr rfl,?_⟩
      ·rw[du,i1];simp[cd,cm,ins,IX,m8 hh]
      ·intro y D;rcases aa0.1 D with D|D
       ·exact i5 y D
       ·simp at D;subst D;simp[yQ,ins,dg,vU]
    |[a,b],E,ih,he,H=>
     have Ah:8<=op:=by
      simp only[eV]at E;split at E
      ·simp at E
      ·split at E
       ·omega
       ·simp at E
     simp only[gL]at H;obtain⟨⟨f,i1,i2⟩,i3,i4,i5⟩:=ih a (by simp) S (by omega);have AW:((S++[f]).length:Int)=S.length+1:=by simp
     obtain⟨⟨g,AX,AY⟩,AI,AZ,A_⟩:=ih b (by simp) (S++[f]) (by rw[AW];omega);obtain⟨_,_,q3,A6,A8⟩:=kc he;simp only[sI]at he⊢;simp only[A8,jy];have AJ:∀y∈(aw vs a).1++(aw vs b).1,yQ cells y:=by
      intro y D;rcases aa0.1 D with D|D
      ·exact i5 y D
      ·exact A_ y D
     have AK:cd ((aw vs a).1++(aw vs b).1) S=some (S++[f]++[g]):=by rw[du,i1];exact AX
     have A9:(jv (q8 op)).t=if op<=12 then 1 else 2:=by
      simp only[jv,q8];by_cases h:op<=12
      ·rw[aat (by omega),aat h]
      ·rw[aab (by omega),aab h]
     have AL:decide (op=7\/12<op)=decide ((jv (q8 op)).t=2):=by
      rw[A9];by_cases h:op<=12
      ·rw[aat h];simp;omega
      ·rw[aab h];simp;omega
     have AM:(jv (q8 op)).t=1\/(jv (q8 op)).t=2:=by
      rw[A9];split<;>simp
     have AN:(jv (q8 op)).t=2->(decide (op=7)||decide (13<=op))=true:=by
      rw[A9];split
      ·simp
      ·intro _;simp;omega
     rcases AZ with e|e
     ·have T:(aw vs b).2=false:=by rw[AI,e];rfl
      have W:pv op (bm vs a).t=1:=by rw[<-A6];exact e
      have Ai:op<=18:=by
       by_cases h:op<=18
       ·exact h
       ·exfalso;unfold pv at W;rw[aab (by omega),aab (by omega)]at W;omega
      simp only[T,acW,acw,acH];refine⟨⟨decide (op=7)||decide (13<=op),?_,AN⟩,AL,AM,?_⟩
      ·rw[du,AK];have O:¬(op=6\/op=7):=by omega
       simp only[acE,cd,cm,ins,acW,acw];simp only[show ¬((8:Int)=1) by decide,show ¬((8:Int)=2) by decide,show ¬((8:Int)=3\/(8:Int)=13\/(8:Int)=14) by decide,show ¬((8:Int)=4) by decide,show ¬((8:Int)=5) by decide,show ¬((8:Int)=6) by decide,show ¬((8:Int)=7) by decide,acw,acH,O,show decide ((0:Int)=1)=false by decide];change (((jo 2 false (S++[f]++[g])).bind _).bind _)=_
       rw[ae5];simp only[acE,m8 hh];rfl
      ·intro y D;rcases aa0.1 D with D|D
       ·exact AJ y D
       ·simp at D;subst D;simp[yQ,ins,dg,vU];exact .inr ⟨af9 (by omega),af9 (by omega)⟩
     ·have T:(aw vs b).2=true:=by rw[AI,e];rfl
      have W:pv op (bm vs a).t=2:=by rw[<-A6];exact e
      have V:(bm vs a).t=2:=by rw[q3];exact W
      obtain rfl:=i2 V;obtain rfl:=AY e;have Aa:op=13\/op=14\/19<=op:=by
       unfold pv at W;split at W
       ·omega
       ·omega
      simp only[T,acW,acw,acH];refine⟨⟨decide (op=7)||decide (13<=op),?_,AN⟩,AL,AM,?_⟩
      ·rw[du,AK];have O:¬(op=6\/op=7):=by omega
       simp only[acE,cd,cm,ins,acH];simp only[show ¬((8:Int)=1) by decide,show ¬((8:Int)=2) by decide,show ¬((8:Int)=3\/(8:Int)=13\/(8:Int)=14) by decide,show ¬((8:Int)=4) by decide,show ¬((8:Int)=5) by decide,show ¬((8:Int)=6) by decide,show ¬((8:Int)=7) by decide,acw,acH,O,show decide ((1:Int)=1)=true by decide];change (((jo 2 true (S++[true]++[true])).bind _).bind _)=_
       rw[ahW];simp only[acE,m8 hh];rfl
      ·intro y D;rcases aa0.1 D with D|D
       ·exact AJ y D
       ·simp at D;subst D;simp[yQ,ins,dg,vU];rcases Aa with h|h|h
        ·exact .inl (.inl (.inr (af9 h)))
        ·exact .inl (.inr (af9 h))
        ·exact .inr ⟨af9 h,af9 (by omega)⟩
    |[],E,_,_,_=>
     exfalso;simp only[eV,aaw]at E;split at E
     ·simp at E
     ·split at E
      ·simp at E
      ·omega
    |a::b::c::d,E,_,_,_=>
     exfalso;simp only[eV]at E;split at E
     ·simp at E
     ·split at E<;>simp at E
termination_by x=>SizeOf.sizeOf x
decreasing_by all_goals (simp_wf;have:=List.sizeOf_lt_of_mem D;omega)
end
def Ax(cells:Int)(x:ay):Prop:=fI x\/(dg D4 cells 0 0 x=true/\x.op≠15)
structure iw(cells:Int)(ex:Bool)(e:Nat)(l:List ay):Prop where
 le:l.length<=e
 run:cd l []=some []
 ok:∀x∈l,Ax cells x
 jmp:∀(i:Nat) x,l[i]?=some x->fI x->0<=x.a->x.a.toNat=e\/(x.a.toNat<=l.length/\cd (l.take x.a.toNat) []=some []/\(i<x.a.toNat\/∃y,l[x.a.toNat]?=some y/\y.op=11))
 out:∀x∈l,fI x->x.a<0->x.op=9/\(x.a= -2\/(ex=true/\x.a= -1))
def Fg(cells:Int)(ex:Bool)(l:List ay):Prop:=iw cells ex l.length l
section
variable {cells:Int} {ex:Bool}
theorem PN{k:Nat}{x:ay}:fI (qF k x)↔fI x:=by unfold fI;rw[Pu]
theorem ao1{k:Nat}{x:ay}(h:Ax cells x):Ax cells (qF k x):=by
 rcases ack k x with e|⟨e,_⟩
 ·rw[e];exact h
 ·exact .inl (PN.2 e)
theorem acp{k:Nat}{x:ay}(E:fI x)(h:0<=x.a):(qF k x).a=x.a+k:=by
 unfold qF;rw[aat ⟨E,h⟩]
theorem acq{k:Nat}{x:ay}(h:x.a<0):(qF k x).a=x.a:=by
 unfold qF;rw[aab (by rintro ⟨_,U⟩;omega)]
theorem ae9(k j:Nat)(l:List ay):(ke k l).take j=ke k (l.take j):=by simp[ke]
theorem U4(k i:Nat)(l:List ay):(ke k l)[i]?=(l[i]?).map (qF k):=by simp[ke]
theorem iw.wk{e e':Nat}{l:List ay}(h:iw cells ex e l)(he:e=l.length)(U:l.length<=e'):iw cells ex e' l:=by
 subst he;refine⟨U,h.run,h.ok,λi x D E J=>?_,h.out⟩;rcases h.jmp i x D E J with M|M
 ·right;have hi:=(D1.1 D).1;exact⟨by omega,by rw[M,List.take_length];exact h.run,.inl (by omega)⟩
 ·exact .inr M
theorem iw.plain{l:List ay}(V:cd l []=some [])(W:∀x∈l,Ax cells x)(E:∀x∈l,¬fI x){e:Nat}(he:l.length<=e):iw cells ex e l:=
 ⟨he,V,W,λ_ x D A1=>absurd A1 (E x (aay D)),λx D A1=>absurd A1 (E x D)⟩
theorem iw.app{e e':Nat}{A B:List ay}(Y:iw cells ex e' B)(he:e=A.length+e')(V:cd A []=some [])(W:∀x∈A,Ax cells x)
 (E:∀(i:Nat) x,A[i]?=some x->fI x->0<=x.a->x.a.toNat=e\/(x.a.toNat<=A.length+B.length/\cd ((A++ke A.length B).take x.a.toNat) []=some []/\(i<x.a.toNat\/∃y,(A++ke A.length B)[x.a.toNat]?=some y/\y.op=11)))
 (AA:∀x∈A,fI x->x.a<0->x.op=9/\(x.a= -2\/(ex=true/\x.a= -1))):iw cells ex e (A++ke A.length B):=by
 have hle:=Y.le;refine⟨by simp;omega,?_,?_,?_,?_⟩
 ·rw[du,V];show cd (ke _ B) []=_;rw[J0];exact Y.run
 ·intro x D;rcases aa0.1 D with D|D
  ·exact W x D
  ·obtain⟨y,H,rfl⟩:=abV.1 D;exact ao1 (Y.ok y H)
 ·intro i x D Z J;by_cases hi:i<A.length
  ·rw[aaF hi]at D;rcases E i x D Z J with h|h
   ·exact .inl h
   ·refine .inr ⟨by simp;omega,h.2⟩
  ·rw[abI (by omega),U4]at D;obtain⟨y,H,rfl⟩:=aax.1 D;have A':=PN.1 Z;have A0:0<=y.a:=by
    by_cases h:0<=y.a
    ·exact h
    ·rw[acq (by omega)]at J;exact J
   rw[acp A' A0];have AB:(y.a+(A.length:Int)).toNat=A.length+y.a.toNat:=by omega
   rw[AB];rcases Y.jmp _ y H A' A0 with h|⟨M,T,I⟩
   ·exact .inl (by omega)
   ·refine .inr ⟨by simp;omega,?_,?_⟩
    ·rw[List.take_append,akw (by omega),du,V];show cd ((ke _ B).take _) []=_;rw[ae9,J0,Nat.add_sub_cancel_left];exact T
    ·rcases I with I|⟨z,A2,A3⟩
     ·exact .inl (by omega)
     ·refine .inr ⟨qF A.length z,?_,by rw[Pu];exact A3⟩;rw[abI (by omega),U4,Nat.add_sub_cancel_left,A2];rfl
 ·intro x D Z J;rcases aa0.1 D with D|D
  ·exact AA x D Z J
  ·obtain⟨y,H,rfl⟩:=abV.1 D;have A':=PN.1 Z;have A0:y.a<0:=by
    by_cases h:0<=y.a
    ·rw[acp A' h]at J;omega
    ·omega
   rw[acq A0,Pu];exact Y.out y H A' A0
theorem iw.jn{e e':Nat}{a b:List ay}(J:iw cells ex e a)(A4:iw cells ex e' b)(he:e=a.length+e'):iw cells ex e (jn a b):=by
 refine A4.app he J.run J.ok ?_ J.out;intro i x D E O;rcases J.jmp i x D E O with h|⟨M,T,I⟩
 ·exact .inl h
 ·refine .inr ⟨by omega,?_,?_⟩
  ·rw[ale M];exact T
  ·rcases I with I|⟨y,H,A5⟩
   ·exact .inl I
   ·exact .inr ⟨y,by rw[aaF (D1.1 H).1];exact H,A5⟩
theorem Fg.jn{a b:List ay}(J:Fg cells ex a)(A4:Fg cells ex b):Fg cells ex (jn a b):=by
 unfold Fg;rw[eP];exact iw.jn (J.wk rfl (by omega)) A4 rfl
theorem iw.tail{e A7:Nat}{l q:List ay}(h:iw cells ex A7 l)(O:A7=e)(V:cd q []=some [])(W:∀x∈q,Ax cells x)(A8:∀x∈q,fI x->x.a=0)
 (AC:∃y,(l++q)[0]?=some y/\y.op=11) (AD:(l++q).length<=e):iw cells ex e (l++q):=by
 subst O;refine⟨AD,?_,?_,?_,?_⟩
 ·rw[du,h.run];exact V
 ·intro x D;rcases aa0.1 D with D|D
  ·exact h.ok x D
  ·exact W x D
 ·intro i x D E O;by_cases hi:i<l.length
  ·rw[aaF hi]at D;rcases h.jmp i x D E O with h|⟨M,T,I⟩
   ·exact .inl h
   ·refine .inr ⟨by simp;omega,by rw[ale M];exact T,?_⟩;rcases I with I|⟨y,H,A5⟩
    ·exact .inl I
    ·exact .inr ⟨y,by rw[aaF (D1.1 H).1];exact H,A5⟩
  ·rw[abI (by omega)]at D;have:=A8 x (aay D) E;rw[this];exact .inr ⟨by simp,rfl,.inr AC⟩
 ·intro x D E O;rcases aa0.1 D with D|D
  ·exact h.out x D E O
  ·have:=A8 x D E;omega
theorem ao2{k:Int}{x:ay}(AE:0<=k):(yL k x).a<0->x.a<0/\¬(x.op=9/\x.a= -1)/\yL k x=x:=by
 unfold yL;split
 ·rename_i h;intro U;simp only at U;omega
 ·rename_i h;exact λU=>⟨U,h,rfl⟩
theorem Fg.Ze{l:List ay}(h:Fg cells true l):Fg cells ex (vg l):=by
 have A6:∀x,fI (yL l.length x)↔fI x:=λx=>by unfold fI;rw[acd]
 unfold Fg;rw[q9];refine⟨by simp,?_,?_,?_,?_⟩
 ·rw[vg,tA (PF _)];exact h.run
 ·intro x D;obtain⟨y,H,rfl⟩:=abV.1 D;rcases PF (l.length:Int) y with e|⟨e,_⟩
  ·rw[e];exact h.ok y H
  ·exact .inl ((A6 y).2 e)
 ·intro i x D E O;unfold vg at D;rw[ab6]at D;obtain⟨y,H,rfl⟩:=aax.1 D;by_cases A9:y.op=9/\y.a= -1
  ·left;unfold yL;rw[aat A9];simp
  ·have e:yL l.length y=y:=by unfold yL;rw[aab A9]
   rw[e]at O⊢;rcases h.jmp i y H ((A6 y).1 E) O with M|⟨M,T,I⟩
   ·exact .inl M
   ·refine .inr ⟨by simpa using M,?_,?_⟩
    ·unfold vg;rw[<-List.map_take,tA (PF _)];exact T
    ·rcases I with I|⟨z,A2,A3⟩
     ·exact .inl I
     ·refine .inr ⟨yL l.length z,?_,by rw[acd];exact A3⟩;unfold vg;rw[ab6,A2];rfl
 ·intro x D E O;obtain⟨y,H,rfl⟩:=abV.1 D;obtain⟨M,T,I⟩:=ao2 (by omega) O;rw[I]at O⊢;obtain⟨q1,q2⟩:=h.out y H ((A6 y).1 E) M;refine⟨q1,?_⟩;rcases q2 with q2|⟨_,q2⟩
  ·exact .inl q2
  ·exact absurd ⟨q1,q2⟩ T
end
section
variable {cells:Int} {ex:Bool}
theorem xL{x:ay}(h:yQ cells x):Ax cells x/\¬fI x:=by
 obtain⟨I,T,V⟩:=h;exact⟨.inr ⟨V,by omega⟩,by unfold fI;omega⟩
def PQ(cells:Int)(t:List ay):Prop:=cd t []=some [true]/\∀x∈t,Ax cells x/\¬fI x
theorem U5{e:Nat}(h:1<=e):iw cells ex e [ins 9 (e:Int) 0 0 0]:=by
 refine⟨by simpa using h,by simp[cd,cm,ins,iu],?_,?_,?_⟩
 ·intro x D;simp at D;subst D;exact .inl (.inl rfl)
 ·intro i x D E J;cases i with
  |zero=>simp at D;subst D;exact .inl (by simp[ins])
  |succ i=>simp at D
 ·intro x D E J;simp at D;subst D;simp only[ins]at J;omega
theorem U6{e:Nat}{t p:List ay}(H:PQ cells t)(A0:iw cells ex e p):iw cells ex (t.length+1+e) (t++[ins 10 ((t.length:Int)+1+p.length) 0 0 0]++ke (t.length+1) p):=by
 have U:cd (t++[ins 10 ((t.length:Int)+1+p.length) 0 0 0]) []=some []:=by
  rw[du,H.1];have:=IX [];simp only[afR]at this;simp[cd,cm,ins,this,iu]
 have M:(t++[ins 10 ((t.length:Int)+1+p.length) 0 0 0]).length=t.length+1:=by simp
 have:=A0.app (e:=t.length+1+e) (A:=t++[ins 10 ((t.length:Int)+1+p.length) 0 0 0]) (by rw[M]) U ?_ ?_ ?_
 ·rw[M]at this;exact this
 ·intro x D;rcases aa0.1 D with D|D
  ·exact (H.2 x D).1
  ·simp at D;subst D;exact .inl (.inr rfl)
 ·intro i x D E J;by_cases hi:i<t.length
  ·rw[aaF hi]at D;exact absurd E (H.2 x (aay D)).2
  ·rw[abI (by omega)]at D;have:i-t.length=0:=by
    have:=(D1.1 D).1;simp at this;omega
   rw[this]at D;simp at D;subst D;have A4:((ins 10 ((t.length:Int)+1+p.length) 0 0 0).a).toNat=t.length+1+p.length:=by simp only[ins];omega
   rw[A4];refine .inr ⟨by simp,?_,.inl (by omega)⟩;rw[akw (by simp;omega)];rw[du,U];show cd (ke _ p) []=_;rw[J0];exact A0.run
 ·intro x D E J;rcases aa0.1 D with D|D
  ·exact absurd E (H.2 x D).2
  ·simp at D;subst D;simp only[ins]at J;omega
theorem J3(b:List ay)(r:List (List ay)):df [] (b::r)=if r=[]then b else jn (b++[ins 9 ((b.length:Int)+1+(df [] r).length) 0 0 0]) (df [] r):=by rw[df]
theorem U7(b:List ay)(n:Nat):b++[ins 9 ((b.length:Int)+1+n) 0 0 0]=jn b [ins 9 (((1+n:Nat)):Int) 0 0 0]:=by
 simp only[jn,ke,abR,ahM];congr 2;unfold qF;rw[aat ⟨.inl rfl,by simp only[ins];omega⟩];simp only[ins,ay.mk.injEq,ala,aoz];omega
theorem My:∀(ts bs:List (List ay)),(∀t∈ts,PQ cells t)->(∀b∈bs,Fg cells ex b)->Fg cells ex (df ts bs)
 |[],[],_,_=>by
  rw[df];exact iw.plain rfl (by simp) (by simp) (by simp)
 |_::_,[],_,_=>by
  rw[df];exact iw.plain rfl (by simp) (by simp) (by simp)
 |[],b::r,H,O=>by
  have W:=O b (by simp);have ih:=My [] r H (λx D=>O x (by simp[D]));rw[J3];split
  ·exact W
  ·generalize df [] r=out at ih⊢;rw[U7];have I:iw cells ex (b.length+(1+out.length)) (jn b [ins 9 (((1+out.length:Nat)):Int) 0 0 0]):=iw.jn (W.wk rfl (by omega)) (U5 (by omega)) rfl;unfold Fg;rw[eP];have e:(jn b [ins 9 (((1+out.length:Nat)):Int) 0 0 0]).length=b.length+1:=by rw[eP];rfl
   rw[e];have:=iw.jn (e:=b.length+1+out.length) (b:=out) (e':=out.length) (by rw[show b.length+1+out.length=b.length+(1+out.length) by omega];exact I) ih (by rw[e]);exact this
 |t::ts,b::r,H,O=>by
  have W:=O b (by simp);have A1:=H t (by simp);have ih:=My ts r (λx D=>H x (by simp[D])) (λx D=>O x (by simp[D]));rw[df];generalize df ts r=out at ih⊢;split
  ·have I:=U6 A1 W;have M:(t++[ins 10 ((t.length:Int)+1+b.length) 0 0 0]++ke (t.length+1) b).length=t.length+1+b.length:=by simp;omega
   unfold Fg;rw[eP,M];refine iw.jn (e':=out.length) ?_ ih (by rw[M]);exact (show iw cells ex (t.length+1+b.length) _ from I).wk M.symm (by rw[M];omega)
  ·rw[U7];have I:iw cells ex (b.length+(1+out.length)) (jn b [ins 9 (((1+out.length:Nat)):Int) 0 0 0]):=iw.jn (W.wk rfl (by omega)) (U5 (by omega)) rfl;have T:=U6 A1 I;have e:(jn b [ins 9 (((1+out.length:Nat)):Int) 0 0 0]).length=b.length+1:=by rw[eP];rfl
   generalize jn b [ins 9 (((1+out.length:Nat)):Int) 0 0 0]=part at T e⊢;have M:(t++[ins 10 ((t.length:Int)+1+part.length) 0 0 0]++ke (t.length+1) part).length=t.length+1+(b.length+1):=by simp[e];omega
   unfold Fg;rw[eP,M];refine iw.jn (e':=out.length) ?_ ih (by rw[M]);rw[show t.length+1+(b.length+1)+out.length=t.length+1+(b.length+(1+out.length)) by omega];exact T
theorem rH:Ax cells (ins 11 0 0 0 0)/\¬fI (ins 11 0 0 0 0):=⟨.inr ⟨by simp[dg,ins],by simp[ins]⟩,by simp[fI,ins]⟩
theorem G5(S:List ay):cd (ins 11 0 0 0 0::S) []=cd S []:=by simp[cd,cm,ins,iu]
theorem afa{t b:List ay}(H:PQ cells t)(O:Fg cells true b):Fg cells ex (jN t b):=by
 unfold jN;refine Fg.Ze ?_;have M:(ins 11 0 0 0 0::t).length=t.length+1:=by simp
 have Y:PQ cells (ins 11 0 0 0 0::t):=⟨by rw[G5];exact H.1,λx D=>by
  rcases aaC.1 D with rfl|D
  ·exact rH
  ·exact H.2 x D⟩
 --A5 test leads behind A5 jump back
 have U:cd (ins 11 0 0 0 0::t++[ins 10 ((t.length:Int)+3+b.length) 0 0 0]) []=some []:=by
  rw[du,Y.1];have:=IX [];simp only[afR]at this;simp[cd,cm,ins,this,iu]
 have A2:(ins 11 0 0 0 0::t++[ins 10 ((t.length:Int)+3+b.length) 0 0 0]).length=t.length+2:=by simp
 have Z:iw cells true (b.length+1) b:=iw.wk O rfl (by omega);have I:=Z.app (e:=t.length+3+b.length) (A:=ins 11 0 0 0 0::t++[ins 10 ((t.length:Int)+3+b.length) 0 0 0]) (by rw[A2];omega) U ?_ ?_ ?_
 ·rw[A2]at I;unfold Fg;have e:(ins 11 0 0 0 0::t++[ins 10 ((t.length:Int)+3+b.length) 0 0 0]++ke (t.length+2) b++[ins 9 0 0 0 0]).length=t.length+3+b.length:=by simp;omega
  have V:=iw.tail I (e:=t.length+3+b.length) rfl (q:=[ins 9 0 0 0 0]) (by simp[cd,cm,ins,iu]) (by
   intro x D;simp at D;subst D;exact .inl (.inl rfl)) (by
   intro x D _;simp at D;subst D;rfl) ⟨ins 11 0 0 0 0,by simp,rfl⟩ (by rw[e];omega)
  rw[e];exact V
 ·intro x D;rcases aa0.1 D with D|D
  ·exact (Y.2 x D).1
  ·simp at D;subst D;exact .inl (.inr rfl)
 ·intro i x D E J;by_cases hi:i<(ins 11 0 0 0 0::t).length
  ·rw[aaF hi]at D;exact absurd E (Y.2 x (aay D)).2
  ·rw[abI (by omega)]at D;have:i-(ins 11 0 0 0 0::t).length=0:=by
    have:=(D1.1 D).1;simp at this⊢;omega
   rw[this]at D;simp at D;subst D;left;simp only[ins];omega
 ·intro x D E J;rcases aa0.1 D with D|D
  ·exact absurd E (Y.2 x D).2
  ·simp at D;subst D;simp only[ins]at J;omega
theorem ao4{t b:List ay}(H:PQ cells t)(O:Fg cells true b)(hh:b=[]\/∃y,b[0]?=some y/\y.op=11):Fg cells ex (pz t b):=by
 unfold pz;refine Fg.Ze ?_;unfold Fg;have e:b++ins 11 0 0 0 0::t++[ins 10 0 0 0 0]=b++(ins 11 0 0 0 0::t++[ins 10 0 0 0 0]):=by simp
 rw[e];refine iw.tail (iw.wk O rfl (by simp)) rfl ?_ ?_ ?_ ?_ (aad _)
 ·rw[du,G5,H.1];have:=IX [];simp only[afR]at this;simp[cd,cm,ins,this,iu]
 ·intro x D;rcases aa0.1 D with D|D
  ·rcases aaC.1 D with rfl|D
   ·exact (rH (cells:=cells)).1
   ·exact (H.2 x D).1
  ·simp at D;subst D;exact .inl (.inr rfl)
 ·intro x D E;rcases aa0.1 D with D|D
  ·rcases aaC.1 D with rfl|D
   ·exact absurd E (rH (cells:=cells)).2
   ·exact absurd E (H.2 x D).2
  ·simp at D;subst D;rfl
 ·rcases hh with rfl|⟨y,A3,A6⟩
  ·exact⟨ins 11 0 0 0 0,by simp,rfl⟩
  ·exact⟨y,by rw[aaF (D1.1 A3).1];exact A3,A6⟩
theorem ao5{a c:Int}{b:List ay}(A':gU cells a 1=true)(A7:gU cells c 2=true)(A8:gU cells (c+1) 1=true)(O:Fg cells true b):Fg cells ex (nG a c b):=by
 unfold nG;refine Fg.Ze ?_;have U:cd [ins 11 0 0 0 0,ins 13 a c 0 0,ins 10 ((b.length:Int)+8) 0 0 0] []=some []:=by
  have:=IX [];simp only[afR]at this;simp[cd,cm,ins,this,iu,eO]
 have Z:iw cells true (b.length+5) b:=iw.wk O rfl (by omega);have I:=Z.app (e:=b.length+8) (A:=[ins 11 0 0 0 0,ins 13 a c 0 0,ins 10 ((b.length:Int)+8) 0 0 0]) (by simp;omega) U ?_ ?_ ?_
 ·unfold Fg;have e:([ins 11 0 0 0 0,ins 13 a c 0 0,ins 10 ((b.length:Int)+8) 0 0 0]++ke 3 b++[ins 2 a 0 0 0,ins 2 (c+1) 0 0 0,ins 8 0 8 0 0,ins 6 a 0 0 0,ins 9 0 0 0 0]).length=b.length+8:=by simp
  have V:=iw.tail I (e:=b.length+8) rfl (q:=[ins 2 a 0 0 0,ins 2 (c+1) 0 0 0,ins 8 0 8 0 0,ins 6 a 0 0 0,ins 9 0 0 0 0]) (by
   have T:=ae5 [] false false;have I:=D0 [] false;simp only[afR,af3]at I T;simp[cd,cm,ins,iu,eO,I,T]) (by
   intro x D;simp at D;rcases D with rfl|rfl|rfl|rfl|rfl
   ·exact .inr ⟨by simp[dg,ins,A'],by simp[ins]⟩
   ·exact .inr ⟨by simp[dg,ins,A8],by simp[ins]⟩
   ·exact .inr ⟨by simp[dg,ins,vU],by simp[ins]⟩
   ·exact .inr ⟨by simp[dg,ins,A'],by simp[ins]⟩
   ·exact .inl (.inl rfl)) (by
   intro x D E;simp at D;rcases D with rfl|rfl|rfl|rfl|rfl
   ·simp[fI,ins]at E
   ·simp[fI,ins]at E
   ·simp[fI,ins]at E
   ·simp[fI,ins]at E
   ·rfl) ⟨ins 11 0 0 0 0,rfl,rfl⟩ (by rw[<-e];exact aad _)
  rw[e];exact V
 ·intro x D;simp at D;rcases D with rfl|rfl|rfl
  ·exact (rH (cells:=cells)).1
  ·exact .inr ⟨by simp[dg,ins,A',A7],by simp[ins]⟩
  ·exact .inl (.inr rfl)
 ·intro i x D E J;match i,D with
  |0,D=>simp at D;subst D;exact absurd E (rH (cells:=cells)).2
  |1,D=>simp at D;subst D;simp[fI,ins]at E
  |2,D=>
   simp at D;subst D;left;simp only[ins];omega
  |i+3,D=>simp at D
 ·intro x D E J;simp at D;rcases D with rfl|rfl|rfl
  ·exact absurd E (rH (cells:=cells)).2
  ·simp[fI,ins]at E
  ·simp only[ins]at J;omega
end
section
variable {vs:List Vr}
mutual
theorem D6:∀(s:Sm)(c:Int),c<=(dp vs s c).2
 | .mk op name to val conds AO fields blocks line,c=>by
  have Z:=sq blocks;have W:=LO blocks;unfold dp;split
  ·exact an5 _
  ·split
   ·exact Z c
   ·split
    ·have:=Z (c+1);simp only;omega
    ·split
     ·have:=W (c+2);simp only;omega
     ·split
      ·exact W c
      ·split
       ·exact W c
       ·split
        ·exact an5 _
        ·split<;>exact an5 _
theorem iP:∀(l:List Sm)(c:Int),c<=(ah vs l c).2
 |[],c=>an5 _
 |x::r,c=>by
  have Z:=D6 x c;have W:=iP r (dp vs x c).2;simp only[ah];omega
theorem sq:∀(l:List (List Sm))(c:Int),c<=(aC vs l c).2
 |[],c=>an5 _
 |b::r,c=>by
  have Z:=iP b c;have W:=sq r (ah vs b c).2;simp only[aC];omega
theorem LO:∀(l:List (List Sm))(c:Int),c<=(om vs l c).2
 |[],c=>an5 _
 |b::r,c=>iP b c
end
end
theorem Zf(vs:List Vr):∀(l:List Sm)(c:Int),(ah vs l c).1=[]\/∃y,(ah vs l c).1[0]?=some y/\y.op=11
 |[],c=>.inl rfl
 |x::r,c=>.inr ⟨ins 11 0 0 0 0,by simp[ah,jn],rfl⟩
theorem U8{h:Int}:∀{l:List Ex},mn l<=h->∀x∈l,aR 0 x<=h
 |y::r,E,x,I=>by
  simp only[mn]at E;rcases aaC.1 I with rfl|I
  ·omega
  ·exact U8 (by omega) x I
section
variable {vs:List Vr} {cells:Int} (H:∀v∈vs,dN v=true) (M:cy vs<=cells)
include H M
theorem PT{x:Ex}(Y:bn x=true)(hw:(cu vs x 2).1=0)(E:aR 0 x<=64):PQ cells (aw vs x).1:=by
 obtain⟨Z,W⟩:=rE.1 hw;obtain⟨⟨f,i1,i2⟩,_,_,i4⟩:=rG H M x [] Y Z (by simpa using E);obtain rfl:=i2 W;exact⟨i1,λy D=>xL (i4 y D)⟩
theorem PU{ex:Bool}{x:Ex}{a:Int}(Y:bn x=true)(he:(bm vs x).e=0)(E:aR 0 x<=64)(U:gU cells a 1=true):cd ((aw vs x).1++[ins 6 a 0 0 0]) []=some []/\∀y∈(aw vs x).1++[ins 6 a 0 0 0],Ax cells y/\¬fI y:=by
 obtain⟨⟨f,i1,i2⟩,_,_,i4⟩:=rG H M x [] Y he (by simpa using E);constructor
 ·rw[du,i1];have:=D0 [] f;simp only[afR]at this;simp[cd,cm,ins,this]
 ·intro y D;rcases aa0.1 D with D|D
  ·exact xL (i4 y D)
  ·simp at D;subst D;exact⟨.inr ⟨by simp[dg,ins,U],by simp[ins]⟩,by simp[fI,ins]⟩
theorem xM{ex:Bool}{l:List ay}(h:cd l []=some []/\∀y∈l,Ax cells y/\¬fI y):Fg cells ex l:=
 iw.plain h.1 (λx I=>(h.2 x I).1) (λx I=>(h.2 x I).2) (aad _)
omit H in
theorem ajB{c:Int}(h:gU cells c 1=true)(l:List Int):PQ cells (ins 1 0 0 0 0::eS c l):=by
 have key:∀(n:Nat)(l:List Int),l.length<=n->cd (eS c l) [true]=some [true]/\∀x∈eS c l,Ax cells x/\¬fI x:=by
  intro n;induction n with
  |zero=>
   intro l O;obtain rfl:l=[]:=abO (by omega);exact⟨rfl,by simp[eS]⟩
  |succ n ih=>
   intro l O;match l,O with
   |[],_=>exact⟨rfl,by simp[eS]⟩
   |[a],_=>exact⟨rfl,by simp[eS]⟩
   |a::b::r,O=>
    obtain⟨i1,i2⟩:=ih r (by simp at O;omega);constructor
    ·have:=ahW [];simp only[afR,af3]at this;simp[eS,cd,cm,ins,eO,this,i1]
    ·intro x I;simp only[eS,aaC]at I;rcases I with rfl|rfl|I
     ·exact⟨.inr ⟨by simp[dg,ins,h],by simp[ins]⟩,by simp[fI,ins]⟩
     ·exact⟨.inr ⟨by simp[dg,ins,vU],by simp[ins]⟩,by simp[fI,ins]⟩
     ·exact i2 x I
 obtain⟨i1,i2⟩:=key l.length l (aad _);refine⟨by simp[cd,cm,ins,eO,i1],λx I=>?_⟩;rcases aaC.1 I with rfl|I
 ·exact⟨.inr ⟨by simp[dg,ins],by simp[ins]⟩,by simp[fI,ins]⟩
 ·exact i2 x I
theorem PV{s:Tx}{v:Vr}(h:bE vs s=some v)(U:¬v.arr=true)(E:v.ty<=2):gU cells (cx vs s).1 1=true:=by
 have A0:∀v∈vs,0<=bO v:=λv J=>rF (H v J);have A6:=yN A0 h;have A7:bO v=1:=by unfold bO;rw[aab U,aab (by omega)]
 exact lf (by omega) (by omega) (by omega)
theorem ajC{s:Tx}{v:Vr}(h:bE vs s=some v)(U:v.arr=true):GR cells (ins 7 (cx vs s).1 0 v.lo v.hi)=true:=by
 have A0:∀v∈vs,0<=bO v:=λv J=>rF (H v J);have A6:=yN A0 h;have A':=H v (rD h).1;simp only[dN,Ds]at A';have T:=A'.2.2.1;rw[aat U]at T;have T:=acV T;have A7:bO v=v.hi-v.lo+1:=by unfold bO;rw[aat U]
 have A2:gU cells (cx vs s).1 (v.hi-v.lo+1)=true:=lf (by omega) (by omega) (by omega);unfold GR;simp only[Ds];exact⟨⟨⟨af9 (show (0:Int)<=v.lo by omega),af9 (show v.lo<=v.hi by omega)⟩,af9 (show v.hi<=255 by omega)⟩,A2⟩
theorem LP{s:Tx}{v:Vr}(h:bE vs s=some v)(E:2<v.ty):0<=(cx vs s).1/\(cx vs s).1+(cG v.ty).length<=cells/\0<(cG v.ty).length:=by
 have A0:∀v∈vs,0<=bO v:=λv J=>rF (H v J);have A6:=yN A0 h;have A':=H v (rD h).1;have A8:tV v.ty=true:=by
  rcases UQ A' with h|h
  ·omega
  ·exact h.2.2
 simp only[dN,Ds]at A';have A1:¬v.arr=true:=by
  intro U;have T:=A'.2.2.1;rw[aat U]at T;have T:=acV T;omega
 have A7:bO v=(cG v.ty).length:=by unfold bO;rw[aab A1,aat E]
 refine⟨by omega,by omega,?_⟩;unfold tV at A8;have:=acV A8;omega
theorem arY{ex:Bool}{to val:Ex}{line:Int}(A3:dj to=3\/dj to=4)(f1:bn to=true)(f2:bn val=true)(h:(yD vs to val line).1=0)(E:(if dj to=3 then aR 0 val else max (gL 0 (ic to)) (aR 1 val))<=64):
 Fg cells ex (if dj to=3 then (aw vs val).1++[ins 6 (cx vs (gT to)).1 0 0 0]else so vs (ic to)++((aw vs val).1++[ins 7 (cx vs (gT to)).1 0 (cx vs (gT to)).2.lo (cx vs (gT to)).2.hi])):=by
 obtain⟨op,n,name,field,sub,l⟩:=to;simp only[iN,pr,kX]at A3 E⊢;unfold yD at h;simp only[pr]at h;cases J:bE vs name with
 |none=>rw[J]at h;simp at h
 |some v=>
  rw[J]at h;simp only at h;split at h
  ·simp at h
  ·obtain⟨q1,AB⟩:=cn.1 h;obtain⟨AC,_⟩:=cn.1 AB;have q1:(bm vs (.mk op n name field sub l)).e=0:=q1;have q2:(bm vs val).e=0:=AC;have AD:=JX f1 q1;obtain⟨AE,AF⟩:=E3 f1;have AG:=kj J;unfold bm at q1;rw[aab (by omega),aat (by omega),J]at q1;simp only at q1;rw[aab (by omega)]at q1;by_cases A9:v.arr≠decide (op=4)\/2<v.ty
   ·rw[aat A9]at q1;simp[fe]at q1
   ·have AA:v.arr=decide (op=4):=by
     cases AP:v.arr<;>cases AQ:decide (op=4)<;>simp_all
    have AR:¬2<v.ty:=λh=>A9 (.inr h);by_cases AH:op=3
    ·subst AH;have E:aR 0 val<=64:=E;have A1:¬v.arr=true:=by rw[AA];decide
     exact xM (l:=(aw vs val).1++[ins 6 (cx vs name).1 0 0 0]) H M (PU (ex:=ex) H M f2 q2 E (PV H M J A1 (by omega)))
    ·have AI:op=4:=by omega
     subst AI;have E:max (gL 0 sub) (aR 1 val)<=64:=E;obtain⟨z,rfl⟩:∃z,sub=[z]:=by
      match sub,AE with
      |[z],_=>exact⟨z,rfl⟩
      |[],h=>simp[eV]at h
      |_::_::_,h=>simp[eV]at h
     simp only[gL]at E;have AJ:=(kE _).1 AF z (by simp);obtain⟨⟨f,i1,_⟩,_,_,i4⟩:=rG H M z [] AJ (AD z (by simp)) (by simp;omega);obtain⟨⟨g,A4,_⟩,_,_,AK⟩:=rG H M val [f] f2 q2 (by simp;omega);have A1:v.arr=true:=by rw[AA];decide
     have T:=ajC H M J A1;simp only[so,AG];refine xM (l:=(aw vs z).1++((aw vs val).1++[ins 7 (cx vs name).1 0 v.lo v.hi])) H M ⟨?_,?_⟩
     ·rw[du,i1];simp only[afR,acE];rw[du,A4];have:=ae5 [] f g;simp only[afR,af3]at this;simp[cd,cm,ins,this]
     ·intro y D;rcases aa0.1 D with D|D
      ·exact xL (i4 y D)
      ·rcases aa0.1 D with D|D
       ·exact xL (AK y D)
       ·simp at D;subst D;refine⟨.inr ⟨?_,by simp[ins]⟩,by simp[fI,ins]⟩;unfold dg;simp only[ins]at T⊢;simpa using T
theorem U9{name:Tx}{v:Vr}{line:Int}(J:bE vs name=some v)(E:2<v.ty):∀(V:List Tx)(xs:List Ex)(p:List Tx),xs.length=V.length->bQ xs=true->(lW vs v.ty line V xs p).1=0->mn xs<=64->
 cd (eD vs name V xs) []=some []/\∀y∈eD vs name V xs,Ax cells y/\¬fI y
 |[],[],p,_,_,_,_=>⟨rfl,by simp[eD]⟩
 |f::V,x::xs,p,O,Y,h,AL=>by
  simp only[bQ,Ds]at Y;simp only[mn]at AL;unfold lW at h;cases A5:pt v.ty f with
  |none=>rw[A5]at h;simp at h
  |some q=>
   rw[A5]at h;simp only at h;split at h
   ·simp at h
   ·split at h
    ·simp at h
    ·obtain⟨A3,AM⟩:=cn.1 h;obtain⟨i1,i2⟩:=U9 J E V xs (p++[f]) (by simpa using O) Y.2 AM (by omega);obtain⟨_,q2,j,q3,AS⟩:=Au J E A5;obtain⟨AT,AU,AV⟩:=LP H M J E;have A2:gU cells (jM vs name f).1 1=true:=lf (by rw[q3];omega) (by omega) (by rw[q3];omega);obtain⟨A4,AN⟩:=PU (ex:=false) H M Y.1 (rE.1 A3).1 (by omega) A2;have e:eD vs name (f::V) (x::xs)=((aw vs x).1++[ins 6 (jM vs name f).1 0 0 0])++eD vs name V xs:=by simp[eD]
     rw[e];constructor
     ·rw[du,A4];exact i1
     ·intro y D;rcases aa0.1 D with D|D
      ·exact AN y D
      ·exact i2 y D
 |[],_::_,_,O,_,_,_=>by simp at O
 |_::_,[],_,O,_,_,_=>by simp at O
end
theorem yR{vs:List Vr}{I:Bool}:∀{cs:List Ex}{l:List (List Sm)},cs.length<=l.length->(gD vs I cs l).1=0->∀x∈cs,(cu vs x 2).1=0
 |c::cs,b::r,A',h,x,D=>by
  obtain⟨V,W⟩:=cn.1 h;obtain⟨_,A3⟩:=cn.1 W;rcases aaC.1 D with rfl|D
  ·exact V
  ·exact yR (by simpa using A') A3 x D
 |_::_,[],A',_,_,_=>by simp at A'
section
variable {vs:List Vr} {cells:Int} (O:∀v∈vs,dN v=true) (M:cy vs<=cells)
include O M
mutual
theorem ajD(I:Bool):∀(s:Sm)(c:Int),gC s=true->(mu vs I s).1=0->iz s<=64->0<=c->(dp vs s c).2<=cells->Fg cells I (dp vs s c).1
 | .mk op name to val conds A4 fields blocks line,c,J,h,H,T,E=>by
  simp only[gC,Ds,aak]at J;obtain⟨Ae,Af,A8,AA,A1,A5,Ag,Ah,A6⟩:=J;have A9:(op=1\/op=3\/op=5\/op=6)->bn val=true:=by
   intro V;rw[aat V]at AA;simp only[Ds]at AA;exact AA.2
  unfold mu at h;unfold iz at H;unfold dp at E⊢;by_cases V:op=1
  ·subst V;rw[aat rfl]at h;rw[aat rfl]at A8;simp only[Ds,aak]at A8;simp only[acH]at H⊢;exact arY O M A8.1 A8.2 (A9 (.inl rfl)) h H
  ·rw[aab V]at h H;simp only[aab V]at E⊢;by_cases W:op=2
   ·subst W;rw[aat rfl]at h H;simp only[acH]at E⊢;have U:bY 2 conds.length A4.length fields.length blocks.length=true:=A5;simp[bY]at U;refine My _ _ ?_ (BF I conds blocks c A6 h (by omega) T E);intro t AB;obtain⟨x,D,rfl⟩:=abV.1 AB;exact PT O M ((kE _).1 A1 x D) (yR (by omega) h x D) (U8 (by omega) x D)
   ·rw[aab W]at h H;simp only[aab W]at E⊢;by_cases A3:op=3
    ·subst A3;rw[aat rfl]at h H;simp only[acH]at E⊢;obtain⟨q1,q2⟩:=cn.1 h;have hm:=sq (vs:=vs) blocks (c+1);have AJ:gU cells c 1=true:=lf T (by omega) (by omega);refine Fg.jn (xM O M (PU (ex:=I) O M (A9 (.inr (.inl rfl))) (rE.1 q1).1 (by omega) AJ)) ?_;refine My _ _ ?_ (BF I [] blocks (c+1) A6 q2 (by omega) (by omega) E);intro t AB;obtain⟨l,A',rfl⟩:=abV.1 AB;exact ajB M AJ l
    ·rw[aab A3]at h H;simp only[aab A3]at E⊢;by_cases AC:op=4
     ·subst AC;rw[aat rfl]at h H;simp only[acH]at E⊢;have U:bY 4 conds.length A4.length fields.length blocks.length=true:=A5;simp[bY]at U;obtain⟨AP,_,_,AQ⟩:=U;cases Z:bE vs name with
      |none=>rw[Z]at h;simp at h
      |some v=>
       rw[Z]at h;simp only at h;split at h
       ·simp at h
       ·split at h
        ·simp at h
        ·rename_i g2;obtain⟨q1,q2⟩:=cn.1 h;have hm:=LO (vs:=vs) blocks (c+2);have AK:=PV O M Z (λe=>g2 (.inl e)) (by omega);have AR:gU cells c 1=true:=lf T (by omega) (by omega);have AL:gU cells (c+1) 1=true:=lf (by omega) (by omega) (by omega);have AS:gU cells c 2=true:=lf T (by omega) (by omega);refine Fg.jn ?_ (ao5 AK AS AL (J4 blocks (c+2) A6 q2 AQ (by omega) (by omega) E));obtain⟨x,y,z,rfl⟩:∃x y z,conds=[x,y,z]:=by
          match conds,AP with
          |[x,y,z],_=>exact⟨x,y,z,rfl⟩
         obtain⟨AT,AD⟩:=cn.1 q1;obtain⟨AD,AE⟩:=cn.1 AD;obtain⟨AE,_⟩:=cn.1 AE;simp only[bQ,Ds]at A1;simp only[gL,Int.zero_add,Int.reduceAdd]at H;obtain⟨⟨f,i1,_⟩,_,_,i4⟩:=rG O M x [] A1.1 (rE.1 AT).1 (by simp;omega);obtain⟨⟨g,AU,_⟩,_,_,AV⟩:=rG O M y [f] A1.2.1 (rE.1 AD).1 (by simp;omega);obtain⟨⟨k,AW,_⟩,_,_,AX⟩:=rG O M z [f,g] A1.2.2.1 (rE.1 AE).1 (by simp;omega);refine xM O M ⟨?_,?_⟩
         ·simp only[jy];rw[du,du,i1];simp only[afR,acE];rw[du,AU];simp only[af3,afR,acE];rw[AW];have t1:=D0 [f,g] k;have t2:=D0 [f] g;have t3:=D0 [] f;simp only[af3,afR]at t1 t2 t3;simp[cd,cm,ins,t1,t2,t3]
         ·intro a A0;simp only[jy,aa0,aaC,afQ,aon]at A0;rcases A0 with (A0|A0|A0)|rfl|rfl|rfl
          ·exact xL (i4 a A0)
          ·exact xL (AV a A0)
          ·exact xL (AX a A0)
          ·exact⟨.inr ⟨by simp[dg,ins,AL],by simp[ins]⟩,by simp[fI,ins]⟩
          ·exact⟨.inr ⟨by simp[dg,ins,AR],by simp[ins]⟩,by simp[fI,ins]⟩
          ·exact⟨.inr ⟨by simp[dg,ins,AK],by simp[ins]⟩,by simp[fI,ins]⟩
     ·rw[aab AC]at h H;simp only[aab AC]at E⊢;by_cases AF:op=5
      ·subst AF;rw[aat rfl]at h;rw[aat (.inl rfl)]at H;simp only[acH]at E⊢;have U:bY 5 conds.length A4.length fields.length blocks.length=true:=A5;simp[bY]at U;obtain⟨q1,q2⟩:=cn.1 h;exact afa (PT O M (A9 (.inr (.inr (.inl rfl)))) q1 (by omega)) (J4 blocks c A6 q2 U.2.2.2 (by omega) T E)
      ·rw[aab AF]at h;simp only[aab AF]at E⊢;by_cases AG:op=6
       ·subst AG;rw[aat rfl]at h;rw[aat (.inr rfl)]at H;simp only[acH]at E⊢;have U:bY 6 conds.length A4.length fields.length blocks.length=true:=A5;simp[bY]at U;obtain⟨q1,q2⟩:=cn.1 h;refine ao4 (PT O M (A9 (.inr (.inr (.inr rfl)))) q2 (by omega)) (J4 blocks c A6 q1 U.2.2.2 (by omega) T E) ?_;match blocks,U.2.2.2 with
        |[b],_=>exact Zf vs b c
       ·rw[aab AG]at h;rw[aab (by omega)]at H;simp only[aab AG]at E⊢;by_cases AH:op=7
        ·subst AH;rw[aat rfl]at h;simp only[acH]at⊢;split at h
         ·rename_i AY;subst AY;refine⟨aad _,by simp[cd,cm,ins,iu],?_,?_,?_⟩
          ·intro x D;simp at D;subst D;exact .inl (.inl rfl)
          ·intro i x D AI A7;cases i with
           |zero=>simp at D;subst D;simp[ins]at A7
           |succ i=>simp at D
          ·intro x D AI A7;simp at D;subst D;exact⟨rfl,.inr ⟨rfl,rfl⟩⟩
         ·simp at h
        ·rw[aab AH]at h;simp only[aab AH]at⊢;by_cases AM:op=8
         ·subst AM;simp only[acH];refine⟨aad _,by simp[cd,cm,ins,iu],?_,?_,?_⟩
          ·intro x D;simp at D;subst D;exact .inl (.inl rfl)
          ·intro i x D AI A7;cases i with
           |zero=>simp at D;subst D;simp[ins]at A7
           |succ i=>simp at D
          ·intro x D AI A7;simp at D;subst D;exact⟨rfl,.inl rfl⟩
         ·have AZ:op=9:=by omega
          subst AZ;rw[aat rfl]at h;rw[aab (by omega)]at H;simp only[aab AM];have U:bY 9 conds.length A4.length fields.length blocks.length=true:=A5;simp[bY]at U;cases Z:bE vs name with
          |none=>rw[Z]at h;simp at h
          |some v=>
           rw[Z]at h;simp only at h;split at h
           ·simp at h
           ·rename_i g1;have A_:=kj Z;obtain⟨i1,i2⟩:=U9 O M Z (by omega) fields conds [] U.1 A1 h H;obtain⟨Aa,Ab,Ac⟩:=LP O M Z (by omega);refine xM O M ⟨?_,?_⟩
            ·rw[du,i1];simp[cd,cm,ins,iu]
            ·intro y A2;rcases aa0.1 A2 with A2|A2
             ·exact i2 y A2
             ·simp at A2;subst A2;refine⟨.inr ⟨?_,by simp[ins]⟩,by simp[fI,ins]⟩;rw[A_];have Ad:gU cells (cx vs name).1 (cG v.ty).length=true:=lf Aa (by omega) Ab;simp[dg,ins,D4,Ad];exact af9 Ac
theorem xN(I:Bool):∀(l:List Sm)(c:Int),fG l=true->(fm vs I l).1=0->bx l<=64->0<=c->(ah vs l c).2<=cells->Fg cells I (ah vs l c).1
 |[],c,_,_,_,_,_=>iw.plain rfl (by simp[ah]) (by simp[ah]) (aad _)
 |x::r,c,J,h,H,T,E=>by
  simp only[fG,Ds]at J;simp only[bx]at H;obtain⟨V,W⟩:=cn.1 h;simp only[ah]at E⊢;have AN:=D6 (vs:=vs) x c;have AO:=iP (vs:=vs) r (dp vs x c).2;have i1:=ajD I x c J.1 V (by omega) T (by omega);have i2:=xN I r (dp vs x c).2 J.2 W (by omega) (by omega) E;have tk:Fg cells I [ins 11 0 0 0 0]:=iw.plain (by rw[G5];rfl) (λx D=>by simp at D;subst D;exact rH.1) (λx D=>by simp at D;subst D;exact (rH (cells:=cells)).2) (aad _);exact Fg.jn (Fg.jn tk i1) i2
theorem BF(I:Bool):∀(cs:List Ex)(l:List (List Sm))(c:Int),cH l=true->(gD vs I cs l).1=0->b7 l<=64->0<=c->(aC vs l c).2<=cells->∀b∈(aC vs l c).1,Fg cells I b
 |_,[],c,_,_,_,_,_,b,Y=>by simp[aC]at Y
 |[],x::r,c,J,h,H,T,E,b,Y=>by
  simp only[cH,Ds]at J;simp only[b7]at H;obtain⟨V,W⟩:=cn.1 h;simp only[aC]at E Y;have AN:=iP (vs:=vs) x c;have AO:=sq (vs:=vs) r (ah vs x c).2;have i1:=xN I x c J.1 V (by omega) T (by omega);have i2:=BF I [] r (ah vs x c).2 J.2 W (by omega) (by omega) E;rcases aaC.1 Y with rfl|Y
  ·exact i1
  ·exact i2 b Y
 |_::cs,x::r,c,J,h,H,T,E,b,Y=>by
  simp only[cH,Ds]at J;simp only[b7]at H;obtain⟨_,h⟩:=cn.1 h;obtain⟨V,W⟩:=cn.1 h;simp only[aC]at E Y;have AN:=iP (vs:=vs) x c;have AO:=sq (vs:=vs) r (ah vs x c).2;have i1:=xN I x c J.1 V (by omega) T (by omega);have i2:=BF I cs r (ah vs x c).2 J.2 W (by omega) (by omega) E;rcases aaC.1 Y with rfl|Y
  ·exact i1
  ·exact i2 b Y
theorem J4:∀(l:List (List Sm))(c:Int),cH l=true->(uK vs l).1=0->l.length=1->b7 l<=64->0<=c->(om vs l c).2<=cells->Fg cells true (om vs l c).1
 |[b],c,J,h,_,H,T,E=>by
  simp only[cH,ak8]at J;simp only[b7]at H;exact xN true b c J h (by omega) T E
 |[],_,_,_,A',_,_,_=>by simp at A'
 |_::_::_,_,_,_,A',_,_,_=>by simp at A'
end
end
theorem xO{op a b n m:Int}(h:op<9\/10<op):Flat [ins op a b n m]:=Flat.one (by simp[ins];omega)
section
variable {vs:List Vr}
mutual
theorem oJ:∀x:Ex,bn x=true->(bm vs x).e=0->Flat (aw vs x).1
 | .mk op n name field sub line,D,h=>by
  have A4:=PL D;simp only[bn,Ds,aak]at D;obtain⟨_,W,_,_,M⟩:=D;unfold bm at h;unfold aw;by_cases O:op=1\/op=2
  ·simp only[aat O];exact xO (by omega)
  ·rw[aab O]at h⊢;by_cases T:op=3\/op=4\/op=5
   ·rw[aat T]at h;cases E:bE vs name with
    |none=>rw[E]at h;simp[fe]at h
    |some v=>
     rw[E]at h;simp only at h;have U:(cx vs name).2=v:=kj E;by_cases H:op=5
     ·rw[aat H]at h;rw[aab (by omega),aat H];split at h
      ·simp[fe]at h
      ·rename_i A5;cases I:pt v.ty field with
       |none=>rw[I]at h;simp[fe]at h
       |some p=>
        obtain⟨_,hm,j,A6,_⟩:=PE (i:=0) I;have Y:=Au E (by omega) I;have A7:=aci hm;have:(jM vs name field).2=p:=by
         obtain⟨_,_,_,_⟩:=Y;simp_all
        simp only[this];exact xO (by omega)
     ·rw[aab H]at h;split at h
      ·simp[fe]at h
      ·rename_i Z;simp only[alg,Int.not_lt]at Z;by_cases V:op=4
       ·rw[aat V]at h;rw[aab (by omega),aab H,aat V];simp only[U];refine Flat.app (arZ sub v.ty M h) (xO (by omega))
       ·rw[aat (by omega)];simp only[U];exact xO (by omega)
   ·rw[aab T]at h;rw[aab (by omega),aab (by omega),aab (by omega)];exact Flat.app (ar0 sub op line M h (by rw[W];unfold eV;split<;>(try split)<;>omega)) (xO (by omega))
theorem arZ:∀(l:List Ex)(t:Int),bQ l=true->(vA vs t l).e=0->Flat (so vs l)
 |[],t,_,_=>by unfold so;exact Flat.nil
 |x::r,t,D,h=>by
  simp only[bQ,Ds]at D;unfold so;unfold vA at h;split at h
  ·rename_i he;exact absurd h he
  ·rename_i he;exact oJ x D.1 (by simpa using he)
theorem ar0:∀(l:List Ex)(op line:Int),bQ l=true->(sI vs op line l).e=0->l.length<=2->Flat (jy vs l).1
 |[],_,_,_,_,_=>by unfold jy;exact Flat.nil
 |[x],op,line,D,h,_=>by
  simp only[bQ,ak8]at D;unfold sI at h;unfold jy;exact oJ x D (kc h).1
 |[x,y],op,line,D,h,_=>by
  simp only[bQ,ak8,Ds]at D;unfold sI at h;obtain⟨A',A0,_⟩:=kc h;unfold jy jy;exact Flat.app (oJ x D.1 A') (oJ y D.2 A0)
 |x::y::z::r,_,_,_,_,A1=>by simp at A1
end
theorem ma{x:Ex}{t:Int}(h:(cu vs x t).1=0):(bm vs x).e=0/\(bm vs x).t=t:=by
 unfold cu at h;split at h
 ·rename_i he;exact absurd h he
 ·rename_i he;split at h
  ·simp at h
  ·rename_i A2;exact⟨by simpa using he,by simpa using A2⟩
theorem ahZ(c:Int):∀l:List Int,Flat (eS c l)
 |[]=>by unfold eS;exact Flat.nil
 |[_]=>by unfold eS;exact Flat.nil
 |a::b::r=>by
  unfold eS;exact Flat.cons (by simp[ins]) (Flat.cons (by simp[ins]) (ahZ c r))
end
def jf(ex:Bool)(x:ay):Prop:=(x.op=10->0<=x.a)/\(x.op=9->0<=x.a\/x.a= -2\/(ex=true/\x.a= -1))
def Jf(ex:Bool)(l:List ay):Prop:=∀x∈l,jf ex x
section
variable {ex:Bool}
end
theorem PW{vs:List Vr}{name:Tx}:∀(J:List Tx)(xs:List Ex),bQ xs=true->(∀x∈xs,(bm vs x).e=0)->Flat (eD vs name J xs)
 |[],xs,_,_=>by cases xs<;>simp only[eD]<;>exact Flat.nil
 |_::_,[],_,_=>by simp only[eD];exact Flat.nil
 |f::J,x::xs,D,h=>by
  simp only[bQ,Ds]at D;simp only[eD];exact Flat.app (oJ x D.1 (h x (by simp))) (Flat.cons (by simp[ins]) (PW J xs D.2 (λy A3=>h y (by simp[A3]))))
end Go.Am
end
section
namespace Go.Am
open Go Go.Proofs Go.Proofs.Tryz
variable [Inhabited bV]
set_option maxRecDepth 20000
@[simp] def cQ(x:ay):D:=.agg [.int .i64 x.op,.int .i64 x.a,.int .i64 x.b,.int .i64 x.n,.int .i64 x.m]
@[simp] def fC(ins:List ay)(vars cells:Int)(x y:AV):aD:=.box [.d (.list (ins.map cQ)),.d (.int .i64 vars),.d (.int .i64 cells),x,y]
@[simp] def bD(l:List Bool):List D:=l.map .bool
section
variable (ins:List ay) (vars cells:Int) (s1 A' J s2 A0 M:Nat) (S T:List D)
theorem BG(at_ n:Int)(U:0<=cells/\cells<=8192)(A1:bq n):
 ag ctx 173 [.ptr 0 0 0,.d (.int .i64 at_),.d (.int .i64 n)] [fC ins vars cells (.vec 1 0 0 J) (.vec 2 0 0 M),.vec 1 S,.vec 1 T]=
  some (.ret (.d (.bool (gU cells at_ n))),[(0,fC ins vars cells (.vec 1 0 0 J) (.vec 2 0 0 M)),(0,.vec 1 S),(0,.vec 1 T)]):=by
 rw[amC (by simp)];unfold gU;by_cases E:0<=at_<;>by_cases H:0<=n<;>by_cases I:n<=cells<;>simp[f173,E,H,I];rw[aB (by unfold bq;omega)]
theorem acs(x:ay)(U:0<=cells/\cells<=8192):
 ag ctx 174 [.ptr 0 0 0,.d (cQ x)] [fC ins vars cells (.vec 1 0 0 J) (.vec 2 0 0 M),.vec 1 S,.vec 1 T]=
  some (.ret (.d (.bool (GR cells x))),[(0,fC ins vars cells (.vec 1 0 0 J) (.vec 2 0 0 M)),(0,.vec 1 S),(0,.vec 1 T)]):=by
 rw[amD (by simp)];unfold GR;by_cases E:0<=x.n
 ·by_cases H:x.n<=x.m
  ·by_cases I:x.m<=255
   ·have h:=BG ins vars cells J M S T x.a (x.m-x.n+1) U (by unfold bq;omega);have W:IntKind.i64.wrap (x.m-x.n)=x.m-x.n:=aB (by unfold bq;omega);have Y:IntKind.i64.wrap (x.m-x.n+1)=x.m-x.n+1:=aB (by unfold bq;omega);simp at h;simp[f174,E,H,I,W,Y,h]
   ·simp[f174,E,H,I]
  ·simp[f174,E,H]
 ·simp[f174,E]
theorem afb(x:ay):ag ctx 175 [.d (cQ x)] []=some (.ret (.d (.bool (vU x))),[]):=by
 rw[amE (by simp)];unfold vU;by_cases O:x.a=0
 ·by_cases E:x.b=6
  ·simp[f175,O,E]
  ·by_cases H:8<=x.b<;>simp[f175,O,E,H]
 ·by_cases E:x.a=1
  ·by_cases H:x.b=7
   ·simp[f175,E,H]
   ·by_cases I:x.b=13
    ·simp[f175,E,I]
    ·by_cases V:x.b=14
     ·simp[f175,E,V]
     ·by_cases Z:19<=x.b<;>simp[f175,E,H,I,V,Z]
  ·simp[f175,O,E]
end
structure Mk where
 out:List ay
 cells:Int
 bU:Int
 ex:List (List Int)
 lv:List Int
@[simp] def eh(n:Int):D:=.int .i64 n
@[simp] def gV(l:List Int):List D:=l.map eh
@[simp] def mkB(p:Pg)(m:Mk)(h:Int):aD:=.box [.d (.str p.name),.d (.list (p.vars.map aW)),.d (.list (p.body.map bX)),.vec 1 0 0 m.out.length,.d (.int .i64 m.cells),.d (.int .i64 h),.d (.int .i64 m.bU),.vec 2 0 0 m.ex.length,.vec 3 0 0 m.lv.length]
@[simp] def gW(p:Pg)(m:Mk)(h:Int):List aD:=[mkB p m h,.vec 5 (m.out.map cQ),.vv (m.ex.map gV) none,.vec 1 (m.lv.map eh)]
@[simp] def Va(p:Pg)(m:Mk)(h:Int)(v1 v2 v3:Nat):List (Nat×aD):=[(0,.box [.d (.str p.name),.d (.list (p.vars.map aW)),.d (.list (p.body.map bX)),.vec 1 v1 0 m.out.length,.d (.int .i64 m.cells),.d (.int .i64 h),.d (.int .i64 m.bU),.vec 2 v2 0 m.ex.length,.vec 3 v3 0 m.lv.length]),(v1,.vec 5 (m.out.map cQ)),(v2,.vv (m.ex.map gV) none),(v3,.vec 1 (m.lv.map eh))]
@[simp] def iQ(p:Pg)(m:Mk)(h:Int)(a b c O T U:Nat):aD:=.box [.d (.str p.name),.d (.list (p.vars.map aW)),.d (.list (p.body.map bX)),.vec a O 0 m.out.length,.d (.int .i64 m.cells),.d (.int .i64 h),.d (.int .i64 m.bU),.vec b T 0 m.ex.length,.vec c U 0 m.lv.length]
def gX(p:Pg)(m:Mk)(h:Int)(o:Out)(r:bN):Prop:=∃v1 v2 v3,r=some (o,Va p m h v1 v2 v3)
def Mk.put(m:Mk)(x:ay)(t:Int):Mk:={m with out:=m.out++[x],bU:=max m.bU t}
theorem mxI(a b:Int):(if a<b then b else a)=max a b:=by
 rw[Int.max_def];by_cases h:a<b
 ·rw[aat h,aat (by omega)]
 ·by_cases V:a=b
  ·subst V;simp
  ·rw[aab h,aab (by omega)]
theorem I0(p:Pg)(m:Mk)(h:Int):ag ctx 122 [.ptr 0 0 0] (gW p m h)=some (.ret (.d (.int .i64 m.out.length)),Va p m h 0 0 0):=by
 rw[amn (by simp)];simp[f122]
theorem lj(p:Pg)(m:Mk)(h I:Int)(x:ay)(H:m.out.length<100000000)(hw:IntKind.i64.wrap (h+I)=h+I):gX p (m.put x (h+I)) (h+I) (.ret (.d (.int .i64 m.out.length))) (ag ctx 44 [.ptr 0 0 0,.d (cQ x),.d (.int .i64 I)] (gW p m h)):=by
 have w0:IntKind.i64.wrap (m.out.length:Int)=m.out.length:=aB (by unfold bq;omega);have W:m.out.length<=4611686018427387903:=by omega
 have Y:(m.out.length+1)*40<=140737488355328:=by omega
 rw[YO (by simp)];simp[f44,aq,hw,w0,W,Y,mxI];exact⟨1,0,0,by simp[Mk.put]⟩
theorem acu(p:Pg)(m:Mk)(h n:Int)(hw:IntKind.i64.wrap (m.cells+n)=m.cells+n):gX p {m with cells:=m.cells+n} h (.ret (.d (.int .i64 m.cells))) (ag ctx 186 [.ptr 0 0 0,.d (.int .i64 n)] (gW p m h)):=by
 rw[amN (by simp)];simp[f186,hw];exact⟨_,_,_,rfl⟩
theorem tD(p:Pg)(m:Mk)(h at_:Int)(H:m.out.length<100000000)(hw:IntKind.i64.wrap (h+ -1)=h+ -1):gX p (m.put (ins 6 at_ 0 0 0) (h+ -1)) (h+ -1) (.ret (.aY [])) (ag ctx 182 [.ptr 0 0 0,.d (.int .i64 at_)] (gW p m h)):=by
 obtain⟨v1,v2,v3,E⟩:=lj p m h (-1) (ins 6 at_ 0 0 0) H hw;generalize m.put (ins 6 at_ 0 0 0) (h+ -1)=M at*;rw[amJ (by simp)];simp[ins]at E;simp[f182,E];exact⟨_,_,_,rfl⟩
theorem pE(p:Pg)(m:Mk)(h:Int)(H:m.out.length<100000000)(hw:IntKind.i64.wrap h=h):gX p (m.put (ins 11 0 0 0 0) h) h (.ret (.aY [])) (ag ctx 112 [.ptr 0 0 0] (gW p m h)):=by
 obtain⟨v1,v2,v3,E⟩:=lj p m h 0 (ins 11 0 0 0 0) H (by simpa using hw);rw[show h+0=h by omega]at E;generalize m.put (ins 11 0 0 0 0) h=M at*;rw[ami (by simp)];simp[ins]at E;simp[f112,E];exact⟨_,_,_,rfl⟩
theorem BH(p:Pg)(m:Mk)(h to:Int)(H:m.out.length<100000000)(hw:IntKind.i64.wrap (h+ -1)=h+ -1):gX p (m.put (ins 10 to 0 0 0) (h+ -1)) (h+ -1) (.ret (.d (.int .i64 m.out.length))) (ag ctx 183 [.ptr 0 0 0,.d (.int .i64 to)] (gW p m h)):=by
 obtain⟨v1,v2,v3,E⟩:=lj p m h (-1) (ins 10 to 0 0 0) H hw;generalize m.put (ins 10 to 0 0 0) (h+ -1)=M at*;rw[amK (by simp)];simp[ins]at E;simp[f183,E];exact⟨_,_,_,rfl⟩
theorem I1(p:Pg)(m:Mk)(h to:Int)(H:m.out.length<100000000)(hw:IntKind.i64.wrap h=h):gX p (m.put (ins 9 to 0 0 0) h) h (.ret (.d (.int .i64 m.out.length))) (ag ctx 120 [.ptr 0 0 0,.d (.int .i64 to)] (gW p m h)):=by
 obtain⟨v1,v2,v3,E⟩:=lj p m h 0 (ins 9 to 0 0 0) H (by simpa using hw);rw[show h+0=h by omega]at E;generalize m.put (ins 9 to 0 0 0) h=M at*;rw[On (by simp)];simp[ins]at E;simp[f120,E];exact⟨_,_,_,rfl⟩
theorem I2(p:Pg)(m:Mk)(h at_ t:Int)(H:m.out.length<100000000)(hw:IntKind.i64.wrap (h+1)=h+1):gX p (m.put (ins (if t=2 then 3 else 2) at_ 0 0 0) (h+1)) (h+1) (.ret (.aY [])) (ag ctx 184 [.ptr 0 0 0,.d (.int .i64 at_),.d (.int .i64 t)] (gW p m h)):=by
 obtain⟨v1,v2,v3,E⟩:=lj p m h 1 (ins (if t=2 then 3 else 2) at_ 0 0 0) H hw;generalize m.put (ins (if t=2 then 3 else 2) at_ 0 0 0) (h+1)=M at*;rw[amL (by simp)];by_cases J:t=2
 ·simp[ins,J]at E;simp[f184,J,E];exact⟨_,_,_,rfl⟩
 ·simp[ins,J]at E;simp[f184,J,E];exact⟨_,_,_,rfl⟩
def Mk.lead(m:Mk)(at_:Int):Mk:={m with out:=setAt m.out at_ m.out.length}
theorem acv:∀(l:List ay)(i:Nat)(v:Int)(hi:i<l.length),(l.map cQ).set i (.agg [.int .i64 l[i].op,.int .i64 v,.int .i64 l[i].b,.int .i64 l[i].n,.int .i64 l[i].m])=(setAt l i v).map cQ
 |x::l,0,v,hi=>by simp[setAt]
 |x::l,i+1,v,hi=>by
  have ih:=acv l i v (by simpa using hi);simp only[setAt,Int.toNat_natCast]at ih⊢;have e:((i+1:Nat):Int).toNat=i+1:=by omega
  try rw[e]
  simp only[abR,List.set_cons_succ,List.getElem_cons_succ,List.modify_succ_cons];rw[ih]
theorem uS(p:Pg)(m:Mk)(h:Int)(i:Nat)(hi:i<m.out.length)(E:m.out.length<100000000):ag ctx 74 [.ptr 0 0 0,.d (.int .i64 i)] (gW p m h)=some (.ret (.aY []),Va p (m.lead i) h 0 0 0):=by
 have A1:=I0 p m h;have A2:=acv m.out i m.out.length hi;rw[arw (by simp)];simp at A1 A2;simp[f74,A1,hi,wb,Bj,Bi,pS,rB,vS,kR,nB,oz,qR,yj,yk,yl,ym,fB,qQ,tc,A3,rZ,ze,HZ,KF,FH,ej,eU,lg,pQ,bh.app];simp[A2,Mk.lead]
def Mk.cI(m:Mk)(ps:List Int):Mk:={m with out:=ld m.out ps m.out.length}
theorem xP(m:Mk)(i:Int)(ps:List Int):m.cI (i::ps)=(m.lead i).cI ps:=by
 unfold Mk.cI Mk.lead;simp only[tZ,acm]
@[simp] theorem G6(m:Mk)(i:Int):(m.lead i).out.length=m.out.length:=by simp[Mk.lead]
def Pl(n:Nat)(ps:List Int):Prop:=∀i∈ps,∃k:Nat,i=k/\k<n
theorem D7(p:Pg)(h:Int)(l:List Int)(J:l.length<100000000)(k:Kt)(R:bN):∀(rest pre:List Int)(m:Mk),l=pre++rest->m.out.length<100000000->Pl m.out.length rest->
 (∀Y:Env,k (.exit 0) ⟨16,aX,Y,[⟨0,0,iQ p (m.cI rest) h 2 3 4 0 0 0⟩,⟨1,0,.vec 1 (l.map eh)⟩,⟨2,0,.vec 5 ((m.cI rest).out.map cQ)⟩,⟨3,0,.vv (m.ex.map gV) none⟩,⟨4,0,.vec 1 (m.lv.map eh)⟩]⟩=R)->
 aZ ctx 43 (.loop (Code.at (bg f43) [1,0,0])) ⟨16,aX,[(0,true,.ptr 0 0 0),(6,true,.vec 1 0 0 l.length),(7,true,.d (.int .i64 l.length)),(8,true,.d (.int .i64 pre.length))],[⟨0,0,iQ p m h 2 3 4 0 0 0⟩,⟨1,0,.vec 1 (l.map eh)⟩,⟨2,0,.vec 5 (m.out.map cQ)⟩,⟨3,0,.vv (m.ex.map gV) none⟩,⟨4,0,.vec 1 (m.lv.map eh)⟩]⟩ k=R
 |[],pre,m,H,E,I,D=>by
  have V:pre.length=l.length:=by rw[H];simp
  have e:m.cI []=m:=rfl;rw[e]at D;simp at D;rw[V,ai];simp[f43,D]
 |i::rest,pre,m,H,E,I,D=>by
  obtain⟨j,rfl,W⟩:=I i (by simp);have Z:pre.length<l.length:=by rw[H];simp
  have y:l[pre.length]=(j:Int):=by simp[H]
  have hle:=uS p m h j W E;have A':IntKind.i64.wrap ((pre.length:Int)+1)=(pre.length:Int)+1:=aB (by unfold bq;omega);have ih:=D7 p h l J k R rest (pre++[(j:Int)]) (m.lead j) (by simp[H]) (by simpa using E) (λi hi=>by simpa using I i (by simp[hi])) (λY=>by have:=D Y;rw[xP]at this;exact this);clear D;generalize m.lead j=M at*;rw[ai];simp[f43]at ih hle⊢;simp[Z,y,hle,A',ih]
theorem yS(p:Pg)(m:Mk)(h:Int)(l:List Int)(J:l.length<100000000)(E:m.out.length<100000000)(I:Pl m.out.length l):ag ctx 43 [.ptr 0 0 0,.vec 1 0 0 l.length] [iQ p m h 2 3 4 0 0 0,.vec 1 (l.map eh),.vec 5 (m.out.map cQ),.vv (m.ex.map gV) none,.vec 1 (m.lv.map eh)]=
 some (.ret (.aY []),[(0,iQ p (m.cI l) h 2 3 4 0 0 0),(0,.vec 1 (l.map eh)),(0,.vec 5 ((m.cI l).out.map cQ)),(0,.vv (m.ex.map gV) none),(0,.vec 1 (m.lv.map eh))]):=by
 have O:=λk R D=>D7 p h l J k R l [] m rfl E I D;rw[ahB (by simp)];simp[f43]at O⊢;have A0:(m.cI l).ex=m.ex:=rfl;have T:(m.cI l).lv=m.lv:=rfl;rw[O _ (some (.ret (.aY []),[(0,iQ p (m.cI l) h 2 3 4 0 0 0),(0,.vec 1 (l.map eh)),(0,.vec 5 ((m.cI l).out.map cQ)),(0,.vv (m.ex.map gV) none),(0,.vec 1 (m.lv.map eh))])) (λY=>by simp[A0,T])];simp
theorem F8(p:Pg)(h:Int)(l:List Int)(J:l.length<100000000)(k:Kt)(R:bN):∀(rest pre:List Int)(m:Mk),l=m.lv->l=pre++rest->m.out.length<100000000->Pl m.out.length rest->
 (∀Y:Env,k (.exit 0) ⟨16,aX,Y,[⟨0,0,iQ p (m.cI rest) h 2 3 1 0 0 0⟩,⟨1,0,.vec 1 (m.lv.map eh)⟩,⟨2,0,.vec 5 ((m.cI rest).out.map cQ)⟩,⟨3,0,.vv (m.ex.map gV) none⟩]⟩=R)->
 aZ ctx 43 (.loop (Code.at (bg f43) [1,0,0])) ⟨16,aX,[(0,true,.ptr 0 0 0),(6,true,.vec 1 0 0 l.length),(7,true,.d (.int .i64 l.length)),(8,true,.d (.int .i64 pre.length))],[⟨0,0,iQ p m h 2 3 1 0 0 0⟩,⟨1,0,.vec 1 (m.lv.map eh)⟩,⟨2,0,.vec 5 (m.out.map cQ)⟩,⟨3,0,.vv (m.ex.map gV) none⟩]⟩ k=R
 |[],pre,m,U,H,E,I,D=>by
  have V:pre.length=l.length:=by rw[H];simp
  have e:m.cI []=m:=rfl;rw[e]at D;simp at D;rw[V,ai];simp[f43,D]
 |i::rest,pre,m,U,H,E,I,D=>by
  obtain⟨j,rfl,W⟩:=I i (by simp);have Z:pre.length<m.lv.length:=by rw[<-U,H];simp
  have y:m.lv[pre.length]=(j:Int):=by
   have:l[pre.length]?=some (j:Int):=by rw[H];simp
   rw[U]at this;exact (D1.1 this).2
  have A4:l.length=m.lv.length:=by rw[U]
  have hle:=uS p m h j W E;have A':IntKind.i64.wrap ((pre.length:Int)+1)=(pre.length:Int)+1:=aB (by unfold bq;omega);have ih:=F8 p h l J k R rest (pre++[(j:Int)]) (m.lead j) U (by simp[H]) (by simpa using E) (λi hi=>by simpa using I i (by simp[hi])) (λY=>by have:=D Y;rw[xP]at this;exact this);have T:(m.lead j).lv=m.lv:=rfl;clear D;generalize m.lead j=M at*;rw[ai];simp[f43]at ih hle⊢;rw[T]at ih hle;simp[Z,y,A4,hle,A',ih];simp[A4]at ih;exact ih
theorem afc(p:Pg)(m:Mk)(h:Int)(J:m.lv.length<100000000)(E:m.out.length<100000000)(I:Pl m.out.length m.lv):ag ctx 43 [.ptr 0 0 0,.vec 1 0 0 m.lv.length] [iQ p m h 2 3 1 0 0 0,.vec 1 (m.lv.map eh),.vec 5 (m.out.map cQ),.vv (m.ex.map gV) none]=
 some (.ret (.aY []),[(0,iQ p (m.cI m.lv) h 2 3 1 0 0 0),(0,.vec 1 (m.lv.map eh)),(0,.vec 5 ((m.cI m.lv).out.map cQ)),(0,.vv (m.ex.map gV) none)]):=by
 have O:=λk R D=>F8 p h m.lv J k R m.lv [] m rfl rfl E I D;rw[ahB (by simp)];simp[f43]at O⊢;have A0:(m.cI m.lv).ex=m.ex:=rfl;have T:(m.cI m.lv).lv=m.lv:=rfl;rw[O _ (some (.ret (.aY []),[(0,iQ p (m.cI m.lv) h 2 3 1 0 0 0),(0,.vec 1 (m.lv.map eh)),(0,.vec 5 ((m.cI m.lv).out.map cQ)),(0,.vv (m.ex.map gV) none)])) (λY=>by simp[A0,T])];simp
theorem Vb(l:List Vr)(W:l.length<=1000)(M:∀v∈l,dN v=true)(s:Tx)(E:cq)(O:E.key=200)(k:Kt)(R:bN)(T:Int->Vr->bN)
 (V:∀(n:Int)(w:Vr) v1 v2 H,k .ret ⟨29,aX,[(4,true,.d (.int .i64 n)),(5,true,.ptr 350 v1 0),(6,true,.d (.bool true))],[E,⟨350,v1,xE w⟩,⟨550,v2,H⟩]⟩=T n w)
 (U:∀(Y:Env) v1 v2 H,k (.exit 0) ⟨29,aX,(1,true,.d (.str s))::(5,true,.ptr 350 v1 0)::Y,[E,⟨350,v1,xE F7⟩,⟨550,v2,H⟩]⟩=R):∀(rest pre:List Vr)(n:Int)(v1 v2:Nat)(H:aD),l=pre++rest->0<=n->n<=1000*pre.length->
 aZ ctx 181 (.loop (Code.at (bg f181) [1,1,0,1,0,0])) ⟨29,aX,[(1,true,.d (.str s)),(5,true,.ptr 350 v1 0),(7,true,.d (.int .i64 n)),(11,true,.d (.list (l.map aW))),(12,true,.d (.int .i64 l.length)),(13,true,.d (.int .i64 pre.length))],[E,⟨350,v1,xE F7⟩,⟨550,v2,H⟩]⟩ k=if (bE rest s).isSome=true then T (sJ rest s n).1 (sJ rest s n).2 else R
 |[],pre,n,v1,v2,H,I,Z,J=>by
  have A3:pre.length=l.length:=by rw[I];simp
  simp[xE,F7]at U;rw[A3,ai];simp[f181,xE,F7,bE];exact U _ _ _ _
 |w::rest,pre,n,v1,v2,H,I,Z,J=>by
  have A':pre.length<l.length:=by rw[I];simp
  have A0:l[pre.length]=w:=by simp[I]
  have A1:=GY (M w (by rw[I];simp));have A7:=tY (M w (by rw[I];simp));have ih:=λv2 H=>Vb l W M s E O k R T V U rest (pre++[w]) (n+bO w) v1 v2 H (by simp[I]) (by omega) (by simp;omega);have A4:IntKind.i64.wrap ((pre.length:Int)+1)=(pre.length:Int)+1:=aB (by unfold bq;omega);have A5:IntKind.i64.wrap (n+bO w)=n+bO w:=aB (by unfold bq;omega);rw[ai];simp only[bE,sJ];by_cases y:w.name=s
  ·simp[f181];have:=V n w v1 (v2+1);simp[xE,y]at this;simp[A',A0,O,aW,dx,y,aq,this]
  ·simp[f181,aW,dx]at ih A1⊢;simp[A',A0,O,aW,dx,y,A1,A4,A5,ih]
abbrev uT(p:Pg):D:=.agg [.str p.name,.list (p.vars.map aW),.list (p.body.map bX)]
theorem tE(p:Pg)(W:p.vars.length<=1000)(M:∀v∈p.vars,dN v=true)(s:Tx):ag ctx 181 [.d (uT p),.d (.str s)] []=some (.ret (.aY [.d (.int .i64 (cx p.vars s).1),.d (aW (cx p.vars s).2),.d (.bool (bE p.vars s).isSome)]),[]):=by
 have A2:=λE O k R T V U v1 v2 H=>Vb p.vars W M s E O k R T V U p.vars [] 0 v1 v2 H rfl (by omega) (by simp);have key:(if (bE p.vars s).isSome=true then some (.ret (.aY [.d (.int .i64 (sJ p.vars s 0).1),.d (aW (sJ p.vars s 0).2),.d (.bool true)]),([]:List (Nat×aD)))else some (.ret (.aY [.d (.int .i64 0),.d (aW F7),.d (.bool false)]),[]))=some (Out.ret (.aY [.d (.int .i64 (cx p.vars s).1),.d (aW (cx p.vars s).2),.d (.bool (bE p.vars s).isSome)]),([]:List (Nat×aD))):=by
  unfold cx;cases h:(bE p.vars s).isSome with
  |true=>simp
  |false=>
   have Z:∀(l:List Vr) n,(bE l s).isSome=false->sJ l s n=(0,F7):=by
    intro l;induction l with
    |nil=>intro n _;rfl
    |cons v r ih=>
     intro n J;simp only[bE,sJ]at J⊢;split at J
     ·cases J
     ·rename_i A6;rw[aab A6];exact ih _ J
   simp[Z _ _ h]
 rw[amI (by simp)];simp[f181,xE,F7]at A2⊢;rw[A2 _ rfl _ (some (.ret (.aY [.d (.int .i64 0),.d (aW F7),.d (.bool false)]),[])) (λn w=>some (.ret (.aY [.d (.int .i64 n),.d (aW w),.d (.bool true)]),[]))]
 ·exact key
 ·intro n w v1 v2 H;simp[aW,dx]
 ·intro Y v1 v2 H;simp[aW,dx,F7,aq]
theorem ajE(s:Tx)(q:Pn):ag ctx 242 [.d (eY q),.ptr 0 0 0] [.box [.d (.str s)]]=some (.ret (.d (.bool (decide (q.name=s)))),[(0,.box [.d (.str s)])]):=by
 rw[ang (by simp)];simp[f242,eY]
theorem LQ(s:Tx):∀(rest pre:List Pn),(pre++rest).length<1000000->∀k:Kt,
 aZ ctx 241 (.loop (Code.at (bg f241) [1,0,1,0,0])) ⟨19,aX,[(0,true,.d (.list ((pre++rest).map eY))),(1,true,.fn 242 [.ptr 0 0 0]),(7,true,.d (.int .i64 (pre++rest).length)),(8,true,.d (.int .i64 pre.length))],[⟨0,0,.box [.d (.str s)]⟩]⟩ k=
  if c9 (λq:Pn=>decide (q.name=s)) rest pre.length<0 then k (.exit 0) ⟨19,aX,[(0,true,.d (.list ((pre++rest).map eY))),(1,true,.fn 242 [.ptr 0 0 0]),(7,true,.d (.int .i64 (pre++rest).length)),(8,true,.d (.int .i64 (pre++rest).length)),(9,true,.d (.bool false))],[⟨0,0,.box [.d (.str s)]⟩]⟩
  else k .ret ⟨19,aX,[(4,true,.d (.int .i64 (c9 (λq:Pn=>decide (q.name=s)) rest pre.length)))],[⟨0,0,.box [.d (.str s)]⟩]⟩
 |[],pre,H,k=>by
  rw[ai];simp[f241,c9]
 |x::rest,pre,H,k=>by
  obtain⟨b,U⟩:∃b,b=(λq:Pn=>decide (q.name=s)) x:=⟨_,rfl⟩;have V:ag ctx 242 [.d (eY x),.ptr 0 0 0] [.box [.d (.str s)]]=some (.ret (.d (.bool b)),[(0,.box [.d (.str s)])]):=by rw[U];exact ajE s x
  have key:c9 (λq:Pn=>decide (q.name=s)) (x::rest) pre.length=if b=true then (pre.length:Int)else c9 (λq:Pn=>decide (q.name=s)) rest (pre.length+1):=by rw[U];rfl
  have ih:=LQ s rest (pre++[x]) (by simpa using H) k;have D:(pre.length:Int)<pre.length+(rest.length+1):=by omega
  have W:IntKind.i64.wrap ((pre.length:Int)+1)=pre.length+1:=aB (by unfold bq;simp at H;omega);have Y:¬((pre.length:Int)<0):=by omega
  try simp[eY]at V
  rw[ai,key];clear U key;cases b with
  |true=>simp[f241,D,W,Y,V,eY]
  |false=>
   simp[f241,eY]at ih⊢;simp[D,W,V,ih,eY]
theorem ajF(s:Tx)(l:List Pn)(H:l.length<1000000):ag ctx 241 [.d (.list (l.map eY)),.fn 242 [.ptr 0 0 0]] [.box [.d (.str s)]]=some (.ret (.d (.int .i64 (c9 (λq:Pn=>decide (q.name=s)) l 0))),[(0,.box [.d (.str s)])]):=by
 have h:=λk=>LQ s l [] (by simpa using H) k;rw[abE (by simp)];simp[f241]at h⊢;simp[h];intro h;rcases lX (λq:Pn=>decide (q.name=s)) l 0 with D|D
 ·exact D.symm
 ·omega
theorem PX(s:Tx):∀(l:List Pn)(n:Nat),(match DY l s n with
 |some (i,q)=>c9 (λq:Pn=>decide (q.name=s)) l n=i/\n<=i/\l[i-n]?=some q
 |none=>c9 (λq:Pn=>decide (q.name=s)) l n= -1)
 |[],n=>rfl
 |q::l,n=>by
  have ih:=PX s l (n+1);simp only[DY,c9];by_cases h:q.name=s
  ·rw[aat h];simp[h]
  ·rw[aab h];simp only[h,decide_false,acW,acw];cases I:DY l s (n+1)with
   |none=>rw[I]at ih;exact ih
   |some x=>
    obtain⟨i,w⟩:=x;rw[I]at ih;obtain⟨D,W,Y⟩:=ih;refine⟨D,by omega,?_⟩;rw[show i-n=(i-(n+1))+1 by omega];simpa using Y
theorem PY(p:Pg)(A0:p.vars.length<=1000)(y:∀v∈p.vars,dN v=true)(s f:Tx):∃b,ag ctx 185 [.d (uT p),.d (.str s),.d (.str f)] []=some (.ret (.aY [.d (.int .i64 (jM p.vars s f).1),.d (eY (jM p.vars s f).2),.d (.bool b)]),[]):=by
 have E:=tE p A0 y s;have A5:0<=(cx p.vars s).1/\(cx p.vars s).1<=1000*1000:=by
  have key:∀(l:List Vr)(n:Int),(∀v∈l,dN v=true)->0<=n->(sJ l s n).1=0\/(n<=(sJ l s n).1/\(sJ l s n).1<=n+1000*l.length):=by
   intro l;induction l with
   |nil=>intro n _ _;exact .inl rfl
   |cons v r ih=>
    intro n J A6;have A7:=tY (J v (by simp));simp only[sJ];split
    ·exact .inr ⟨by omega,by simp;omega⟩
    ·rcases ih (n+bO v) (λw hw=>J w (by simp[hw])) (by omega)with h|h
     ·exact .inl h
     ·exact .inr ⟨by omega,by simp;omega⟩
  unfold cx;rcases key p.vars 0 y (by omega)with h|h<;>omega
 have A':=JO (cx p.vars s).2.ty;have A8:=DS (cx p.vars s).2.ty;have O:=ajF f (cG (cx p.vars s).2.ty) (by omega);have M:=PX f (cG (cx p.vars s).2.ty) 0;unfold jM;generalize (cx p.vars s)=A at*;obtain⟨n,w⟩:=A;simp only at*;rw[amM (by simp)];cases J:bE p.vars s with
 |none=>
  rw[J]at E;exact⟨_,by simp[f185,E,aW,dx,JW,eY];rfl⟩
 |some v=>
  rw[J]at E;by_cases T:2<w.ty
  ·by_cases Z:f=[]
   ·exact⟨_,by simp[f185,E,aW,dx,JW,eY,T,Z];rfl⟩
   ·cases I:DY (cG w.ty) f 0 with
    |none=>
     rw[I]at M;simp only at M;rw[M]at O;refine⟨false,?_⟩;simp[f185,E,aW,dx,JW,eY,T,Z,A',O]
    |some x=>
     obtain⟨i,q⟩:=x;rw[I]at M;obtain⟨g1,g2,g3⟩:=M;refine⟨true,?_⟩;rw[g1]at O;have hi:i<(cG w.ty).length:=by
      have:=(D1.1 g3).1;simpa using this
     have A1:(cG w.ty)[i]=q:=by
      have:=(D1.1 g3).2;simpa using this
     have A2:IntKind.i64.wrap (n+i)=n+i:=aB (by unfold bq;omega);have A3:¬((i:Int)<0):=by omega
     simp[f185,E,aW,dx,T,Z,A',O,aq,A2,A3,hi,A1,eY]
  ·have A4:w.ty<=2:=by omega
   exact⟨_,by simp[f185,E,aW,dx,JW,eY,T,A4];rfl⟩
def Mk.aF(m:Mk)(l:List ay)(t:Int):Mk:={m with out:=m.out++l,bU:=max m.bU t}
def KE(p:Pg)(x:Ex):Prop:=∀(m:Mk)(h:Int),0<=h->h<=m.out.length->0<=m.bU->m.out.length+(aw p.vars x).1.length<100000000->
 gX p (m.aF (aw p.vars x).1 (aR h x)) (h+1) (.ret (.d (.bool (aw p.vars x).2))) (ag ctx 116 [.ptr 0 0 0,.d (.agg [.int .i64 (dj x),.int .i64 (nQ x),.str (gT x),.str (nR x),.list ((ic x).map bK),.int .i64 (iX x)])] (gW p m h))
theorem ajG{k:Int}{q:Pn}(h:q∈cG k):q.ty=1\/q.ty=2:=by
 by_cases Z:k∈iO
 ·have all:∀q∈cG k,q.ty=1\/q.ty=2:=by
   simp only[iO,aaC,afQ,aon]at Z;rcases Z with rfl|rfl|rfl|rfl|rfl|rfl|rfl|rfl|rfl|rfl|rfl|rfl|rfl|rfl|rfl|rfl|rfl|rfl|rfl|rfl|rfl<;>decide
  exact all q h
 ·rw[sl Z]at h;simp at h
section
variable {p:Pg} (V:p.vars.length<=1000) (T:∀v∈p.vars,dN v=true)
theorem ao7{n line:Int}:KE p (.mk 1 n [] [] [] line):=by
 intro m h W hh hm I;simp[aw]at I;obtain⟨v1,v2,v3,D⟩:=lj p m h 1 (ins 1 0 0 n 0) (by omega) (aB (by unfold bq;omega));have e:m.aF (aw p.vars (.mk 1 n [] [] [] line)).1 (aR h (.mk 1 n [] [] [] line))=m.put (ins 1 0 0 n 0) (h+1):=by simp[aw,aR,Mk.aF,Mk.put]
 rw[e];generalize m.put (ins 1 0 0 n 0) (h+1)=M at*;simp[ins]at D;rw[xp (by simp)];simp[f116,D,aw];exact⟨_,_,_,rfl⟩
theorem ao8{n line:Int}:KE p (.mk 2 n [] [] [] line):=by
 intro m h W hh hm I;simp[aw]at I;obtain⟨v1,v2,v3,D⟩:=lj p m h 1 (ins 1 0 0 n 0) (by omega) (aB (by unfold bq;omega));have e:m.aF (aw p.vars (.mk 2 n [] [] [] line)).1 (aR h (.mk 2 n [] [] [] line))=m.put (ins 1 0 0 n 0) (h+1):=by simp[aw,aR,Mk.aF,Mk.put]
 rw[e];generalize m.put (ins 1 0 0 n 0) (h+1)=M at*;simp[ins]at D;rw[xp (by simp)];simp[f116,D,aw];exact⟨_,_,_,rfl⟩
include V T
theorem ao9{s:Tx}{v:Vr}(E:bE p.vars s=some v)(U:v.ty<=2):v.ty=1\/v.ty=2:=by
 have hm:v∈p.vars:=by
  have key:∀l:List Vr,bE l s=some v->v∈l:=by
   intro l;induction l with
   |nil=>intro h;simp[bE]at h
   |cons w r ih=>
    intro h;simp only[bE]at h;split at h
    ·cases h;simp
    ·exact afT _ (ih h)
  exact key _ E
 have:=T v hm;simp only[dN,Ds,ahR,aak]at this;rcases this.2.1.2 with h|h
 ·exact h
 ·have:v.ty∉iO\/v.ty∈iO:=by by_cases h:v.ty∈iO<;>simp[h]
  rcases this with O|O
  ·unfold tV at h;rw[sl O]at h;simp at h
  ·simp only[iO,aaC,afQ,aon]at O;omega
theorem apa{name:Tx}{line:Int}{v:Vr}(E:bE p.vars name=some v)(U:v.ty<=2):KE p (.mk 3 0 name [] [] line):=by
 intro m h W hh hm I;simp[aw]at I;have H:=tE p V T name;have J:=kj E;rw[E]at H;have Y:=ao9 V T E U;obtain⟨v1,v2,v3,D⟩:=I2 p m h (cx p.vars name).1 v.ty (by omega) (aB (by unfold bq;omega));have A':(if v.ty=2 then (3:Int)else 2)=1+v.ty:=by rcases Y with h|h<;>rw[h]<;>rfl
 rw[A']at D;have e:m.aF (aw p.vars (.mk 3 0 name [] [] line)).1 (aR h (.mk 3 0 name [] [] line))=m.put (ins (1+v.ty) (cx p.vars name).1 0 0 0) (h+1):=by simp[aw,aR,Mk.aF,Mk.put,J]
 have A0:(aw p.vars (.mk 3 0 name [] [] line)).2=decide (v.ty=2):=by simp[aw,J]
 rw[e,A0];rw[J]at H;generalize m.put (ins (1+v.ty) (cx p.vars name).1 0 0 0) (h+1)=M at*;simp at D;rw[xp (by simp)];simp[f116,H,aW,dx,D,aq];exact⟨_,_,_,rfl⟩
theorem apb{name field:Tx}{line:Int}{v:Vr}{q:Pn}(E:bE p.vars name=some v)(U:2<v.ty)(A3:pt v.ty field=some q)(A5:fK field=true):KE p (.mk 5 0 name field [] line):=by
 intro m h W hh hm I;simp[aw]at I;obtain⟨b,H⟩:=PY p V T name field;have J:(jM p.vars name field).2=q:=(Au E U A3).1;have Y:q.ty=1\/q.ty=2:=ajG (Au E U A3).2.1;obtain⟨v1,v2,v3,D⟩:=I2 p m h (jM p.vars name field).1 q.ty (by omega) (aB (by unfold bq;omega));have A':(if q.ty=2 then (3:Int)else 2)=1+q.ty:=by rcases Y with h|h<;>rw[h]<;>rfl
 rw[A']at D;have e:m.aF (aw p.vars (.mk 5 0 name field [] line)).1 (aR h (.mk 5 0 name field [] line))=m.put (ins (1+q.ty) (jM p.vars name field).1 0 0 0) (h+1):=by simp[aw,aR,Mk.aF,Mk.put,J]
 have A0:(aw p.vars (.mk 5 0 name field [] line)).2=decide (q.ty=2):=by simp[aw,J]
 rw[e,A0];rw[J]at H;generalize m.put (ins (1+q.ty) (jM p.vars name field).1 0 0 0) (h+1)=M at*;simp at D;simp[eY]at H;rw[xp (by simp)];simp[f116,H,D,aq];exact⟨_,_,_,rfl⟩
theorem apc{name:Tx}{line:Int}{v:Vr}{y:Ex}(E:bE p.vars name=some v)(U:v.ty<=2)(A4:KE p y):KE p (.mk 4 0 name [] [y] line):=by
 intro m h W hh hm I;have J:=kj E;have A1:(aw p.vars (.mk 4 0 name [] [y] line))=((aw p.vars y).1++[ins (3+v.ty) (cx p.vars name).1 0 v.lo v.hi],decide (v.ty=2)):=by simp[aw,so,J]
 rw[A1]at I;simp at I;have H:=tE p V T name;rw[E,J]at H;have Y:=ao9 V T E U;obtain⟨v1,v2,v3,A2⟩:=A4 m h W hh hm (by omega);have A6:=mo p.vars y;obtain⟨A7,A8,A9,D⟩:=lj p (m.aF (aw p.vars y).1 (aR h y)) (h+1) 0 (ins (3+v.ty) (cx p.vars name).1 0 v.lo v.hi) (by simp[Mk.aF];omega) (aB (by unfold bq;omega));have e:m.aF (aw p.vars (.mk 4 0 name [] [y] line)).1 (aR h (.mk 4 0 name [] [y] line))=(m.aF (aw p.vars y).1 (aR h y)).put (ins (3+v.ty) (cx p.vars name).1 0 v.lo v.hi) (h+1+0):=by
  rw[A1];simp[aR,gL,Mk.aF,Mk.put];omega
 rw[e,A1];generalize (m.aF (aw p.vars y).1 (aR h y)).put (ins (3+v.ty) (cx p.vars name).1 0 v.lo v.hi) (h+1+0)=M at*;generalize m.aF (aw p.vars y).1 (aR h y)=N at*;simp[ins]at D A2;rw[xp (by simp)];rcases Y with O|O
 ·simp[O]at D;simp[f116,H,aW,dx,aK,A2,D,aq,O];exact⟨_,_,_,rfl⟩
 ·simp[O]at D;simp[f116,H,aW,dx,aK,A2,D,aq,O];exact⟨_,_,_,rfl⟩
end
section
variable {p:Pg}
theorem apd{op line:Int}{y:Ex}(U:op=6\/op=7)(V:KE p y):KE p (.mk op 0 [] [] [y] line):=by
 intro m h A8 hh hm W;have A9:¬(op=1\/op=2):=by omega
 have I:¬op=3:=by omega
 have J:¬op=4:=by omega
 have O:¬op=5:=by omega
 have Y:¬op=1:=by omega
 have Z:¬op=2:=by omega
 have T:(aw p.vars (.mk op 0 [] [] [y] line))=((aw p.vars y).1++[ins 8 (if (aw p.vars y).2=true then 1 else 0) op 0 0],decide (op=7\/12<op)):=by simp[aw,jy,A9,I,J,O];rfl
 rw[T]at W;simp at W;obtain⟨v1,v2,v3,H⟩:=V m h A8 hh hm (by omega);have AC:=mo p.vars y;obtain⟨AD,AE,AF,D⟩:=lj p (m.aF (aw p.vars y).1 (aR h y)) (h+1) 0 (ins 8 (if (aw p.vars y).2=true then 1 else 0) op 0 0) (by simp[Mk.aF];omega) (aB (by unfold bq;omega));have e:m.aF (aw p.vars (.mk op 0 [] [] [y] line)).1 (aR h (.mk op 0 [] [] [y] line))=(m.aF (aw p.vars y).1 (aR h y)).put (ins 8 (if (aw p.vars y).2=true then 1 else 0) op 0 0) (h+1+0):=by
  rw[T];have AA:¬(op=1\/op=2\/op=3\/op=5):=by omega
  simp[aR,gL,Mk.aF,Mk.put,AA];omega
 rw[e,T];generalize (m.aF (aw p.vars y).1 (aR h y)).put (ins 8 (if (aw p.vars y).2=true then 1 else 0) op 0 0) (h+1+0)=M at*;generalize m.aF (aw p.vars y).1 (aR h y)=N at*;generalize (aw p.vars y).2=B at*;have E:IntKind.i64.wrap 1=1:=rfl;have w0:IntKind.i64.wrap 0=0:=rfl;simp[ins]at D H;rw[xp (by simp)];have A':decide (13<=op)=decide (12<op):=by rw[akl];omega
 cases B with
 |true=>
  simp at D;simp[f116,Y,Z,I,J,O,aK];rw[ai];simp[f116,aK,H,E,w0];rw[ai];simp[f116,H,D,E,w0,A'];exact⟨_,_,_,rfl⟩
 |false=>
  simp at D;simp[f116,Y,Z,I,J,O,aK];rw[ai];simp[f116,aK,H,E,w0];rw[ai];simp[f116,H,D,E,w0,A'];exact⟨_,_,_,rfl⟩
theorem apf{op line:Int}{y z:Ex}(U:8<=op)(V:KE p y)(AG:KE p z):KE p (.mk op 0 [] [] [y,z] line):=by
 intro m h A8 hh hm W;have A9:¬(op=1\/op=2):=by omega
 have I:¬op=3:=by omega
 have J:¬op=4:=by omega
 have O:¬op=5:=by omega
 have Y:¬op=1:=by omega
 have Z:¬op=2:=by omega
 have T:(aw p.vars (.mk op 0 [] [] [y,z] line))=((aw p.vars y).1++((aw p.vars z).1++[ins 8 (if (aw p.vars z).2=true then 1 else 0) op 0 0]),decide (op=7\/12<op)):=by simp[aw,jy,A9,I,J,O];rfl
 rw[T]at W;simp at W;have AC:=mo p.vars y;have AN:=mo p.vars z;obtain⟨v1,v2,v3,H⟩:=V m h A8 hh hm (by omega);obtain⟨t1,t2,t3,A0⟩:=AG (m.aF (aw p.vars y).1 (aR h y)) (h+1) (by omega) (by simp[Mk.aF];omega) (by simp[Mk.aF];omega) (by simp[Mk.aF];omega);obtain⟨AD,AE,AF,D⟩:=lj p ((m.aF (aw p.vars y).1 (aR h y)).aF (aw p.vars z).1 (aR (h+1) z)) (h+1+1) (-1) (ins 8 (if (aw p.vars z).2=true then 1 else 0) op 0 0) (by simp[Mk.aF];omega) (aB (by unfold bq;omega));rw[show h+1+1+ -1=h+1 by omega]at D;have e:m.aF (aw p.vars (.mk op 0 [] [] [y,z] line)).1 (aR h (.mk op 0 [] [] [y,z] line))=((m.aF (aw p.vars y).1 (aR h y)).aF (aw p.vars z).1 (aR (h+1) z)).put (ins 8 (if (aw p.vars z).2=true then 1 else 0) op 0 0) (h+1):=by
  rw[T];have AA:¬(op=1\/op=2\/op=3\/op=5):=by omega
  simp[aR,gL,Mk.aF,Mk.put,AA];omega
 rw[e,T];generalize ((m.aF (aw p.vars y).1 (aR h y)).aF (aw p.vars z).1 (aR (h+1) z)).put (ins 8 (if (aw p.vars z).2=true then 1 else 0) op 0 0) (h+1)=M at*;generalize (m.aF (aw p.vars y).1 (aR h y)).aF (aw p.vars z).1 (aR (h+1) z)=AO at*;generalize m.aF (aw p.vars y).1 (aR h y)=N at*;generalize (aw p.vars z).2=B at*;generalize (aw p.vars y).2=AP at*;have E:IntKind.i64.wrap 1=1:=rfl;have w0:IntKind.i64.wrap 0=0:=rfl;have A5:IntKind.i64.wrap 2=2:=rfl;have AB:IntKind.i64.wrap (-1)= -1:=rfl;have A':decide (13<=op)=decide (12<op):=by rw[akl];omega
 simp[ins]at D H A0;rw[xp (by simp)];cases B with
 |true=>
  simp at D A0;simp[f116,Y,Z,I,J,O,aK];rw[ai];simp[f116,aK,H,E,w0];rw[ai];simp[f116,aK,A0,E,w0,A5];rw[ai];simp[f116,D,E,w0,A5,AB,A'];exact⟨_,_,_,rfl⟩
 |false=>
  simp at D A0;simp[f116,Y,Z,I,J,O,aK];rw[ai];simp[f116,aK,H,E,w0];rw[ai];simp[f116,aK,A0,E,w0,A5];rw[ai];simp[f116,D,E,w0,A5,AB,A'];exact⟨_,_,_,rfl⟩
end
theorem nV{p:Pg}(A6:p.vars.length<=1000)(A7:∀v∈p.vars,dN v=true):∀x:Ex,bn x=true->(bm p.vars x).e=0->KE p x
 | .mk op n name field sub line,AH,ex=>by
  have ih:∀y∈sub,bn y=true->(bm p.vars y).e=0->KE p y:=λy V=>nV A6 A7 y;have AI:=J1 AH ex;cases AI with
  |num h=>exact ao7
  |vu h=>exact ao8
  |var A1 D A2=>exact apa A6 A7 A1 A2
  |idx A1 D A2 A3 A4 ty=>exact apc A6 A7 A1 A2 (ih _ (by simp) A3 A4)
  |fld A1 A2 AJ AK=>exact apb A6 A7 A1 A2 AJ AK
  |one U A3 A4 ty=>exact apd U (ih _ (by simp) A3 A4)
  |two U A3 A4 AL AM ty AQ=>exact apf U.1 (ih _ (by simp) A3 A4) (ih _ (by simp) AL AM)
termination_by x=>SizeOf.sizeOf x
decreasing_by all_goals (simp_wf;have:=List.sizeOf_lt_of_mem V;omega)
end Go.Am
end
section
namespace Go.Am
open Go
def iR(ex:List (List Int))(a:List Int):List (List Int):=
 match ex.getLast? with
 |some r=>ex.dropLast++[r++a]
 |none=>[]
theorem kG(ex:List (List Int))(r a:List Int):iR (ex++[r]) a=ex++[r++a]:=by simp[iR]
theorem pF(ex:List (List Int)):iR ex []=ex:=by
 rcases akT ex with h|⟨l,r,h⟩
 ·subst h;rfl
 ·rw[h,alB,kG,afV]
theorem LR(ex:List (List Int))(a b:List Int):iR (iR ex a) b=iR ex (a++b):=by
 rcases akT ex with h|⟨l,r,h⟩
 ·subst h;rfl
 ·rw[h,alB,kG,kG,kG,acD]
@[simp] theorem acy(ex:List (List Int))(a:List Int):(iR ex a).length=ex.length:=by
 rcases akT ex with h|⟨l,r,h⟩
 ·subst h;rfl
 ·rw[h,alB,kG];simp
def Mk.aS(m:Mk)(l:List ay)(c t:Int):Mk:=
 ⟨m.out++cU m.out.length l,c,max m.bU t,iR m.ex (cN (-1) m.out.length l),m.lv++cN (-2) m.out.length l⟩
theorem E4(m:Mk)(a b:List ay)(c H t I:Int):(m.aS a c t).aS b H I=m.aS (jn a b) H (max t I):=by
 unfold Mk.aS;simp only[Mk.mk.injEq,aam,pW];rw[PH,Mx (by decide),Mx (by decide),LR];simp[acD,Int.max_assoc]
theorem afd(m:Mk)(h:0<=m.bU):m.aS [] m.cells 0=m:=by
 unfold Mk.aS;simp[cN,pF];cases m;simp at h⊢;omega
theorem rI{m:Mk}{l:List ay}(h:Flat l)(t:Int):m.aS l m.cells t=m.aF l t:=by
 unfold Mk.aS Mk.aF;rw[h.cU,tC h,tC h,pF];simp
theorem BI{m:Mk}{l:List ay}{x:ay}{t u:Int}:(m.aF l t).put x u=m.aF (l++[x]) (max t u):=by
 unfold Mk.aF Mk.put;simp[acD,Int.max_assoc]
theorem LS{m:Mk}{l r:List ay}{t u:Int}:(m.aF l t).aF r u=m.aF (l++r) (max t u):=by
 unfold Mk.aF;simp[acD,Int.max_assoc]
theorem afe{m:Mk}{x:ay}{u:Int}:m.put x u=m.aF [x] u:=rfl
theorem yT{m:Mk}{l:List ay}{t u:Int}(h:max m.bU t=max m.bU u):m.aF l t=m.aF l u:=by
 unfold Mk.aF;rw[h]
theorem pG{m:Mk}{l:List ay}{c t u:Int}(h:max m.bU t=max m.bU u):m.aS l c t=m.aS l c u:=by
 unfold Mk.aS;rw[h]
theorem oa(h:Int)(x:Ex):h+1<=aR h x:=by
 obtain⟨op,n,name,field,sub,line⟩:=x;unfold aR;split
 ·exact an5 _
 ·omega
theorem D8(k:Int):∀(l:List ay)(n:Nat),∀i∈cN k n l,∃j:Nat,i=j/\j<n+l.length
 |[],n,i,h=>by simp[cN]at h
 |x::r,n,i,h=>by
  simp only[cN]at h;have key:i∈cN k (n+1) r->∃j:Nat,i=j/\j<n+(x::r).length:=λh=>by
   obtain⟨j,e,M⟩:=D8 k r (n+1) i h;exact⟨j,e,by simp;omega⟩
  split at h
  ·rcases aaC.1 h with rfl|h
   ·exact⟨n,rfl,by simp⟩
   ·exact key h
  ·exact key h
theorem tF(k:Int):∀(l:List ay)(n:Nat),(cN k n l).length<=l.length
 |[],n=>by simp[cN]
 |x::r,n=>by
  have:=tF k r (n+1);simp only[cN];split<;>simp<;>omega
def jO(m:Mk):Prop:=m.lv.length<=m.out.length/\∀r∈m.ex,r.length<=m.out.length
theorem acz{ex:List (List Int)}{a r:List Int}(h:r∈iR ex a):∃E∈ex,r.length<=E.length+a.length:=by
 rcases akT ex with e|⟨l,q,e⟩
 ·subst e;simp[iR]at h
 ·rw[e,alB]at h⊢;rw[kG]at h;rcases aa0.1 h with h|h
  ·exact⟨r,by simp[h],by omega⟩
  ·simp at h;subst h;exact⟨q,by simp,by simp⟩
theorem jO.put{m:Mk}(h:jO m)(x:ay)(t:Int):jO (m.put x t):=
 ⟨by have:=h.1;simp[Mk.put];omega,λr D=>by have:=h.2 r D;simp[Mk.put];omega⟩
theorem jO.aF{m:Mk}(h:jO m)(l:List ay)(t:Int):jO (m.aF l t):=
 ⟨by have:=h.1;simp[Mk.aF];omega,λr D=>by have:=h.2 r D;simp[Mk.aF];omega⟩
theorem jO.aS{m:Mk}(h:jO m)(l:List ay)(c t:Int):jO (m.aS l c t):=by
 refine⟨?_,λr D=>?_⟩
 ·have:=h.1;have:=tF (-2) l m.out.length;simp[Mk.aS];omega
 ·obtain⟨E,J,D⟩:=acz D;have:=h.2 E J;have:=tF (-1) l m.out.length;simp[Mk.aS];omega
theorem jO.lead{m:Mk}(h:jO m)(i:Int):jO (m.lead i):=by
 have e:(m.lead i).out.length=m.out.length:=by simp[Mk.lead]
 exact⟨by rw[e];exact h.1,λr D=>by rw[e];exact h.2 r D⟩
end Go.Am
end
section
namespace Go.Am
open Go Go.Proofs Go.Proofs.Tryz
variable [Inhabited bV]
set_option maxRecDepth 20000
section
variable {p:Pg} (D:p.vars.length<=1000) (E:∀v∈p.vars,dN v=true)
include D E
theorem acA{name:Tx}{T U:Int}{v:Vr}{val:Ex}(O:bE p.vars name=some v)(V:bn val=true)(W:(bm p.vars val).e=0)(m:Mk)(hm:0<=m.bU)(Z:m.out.length+(aw p.vars val).1.length<99999999):
 gX p (m.aF ((aw p.vars val).1++[ins 6 (cx p.vars name).1 0 0 0]) (aR 0 val)) 0 (.ret (.aY [])) (ag ctx 113 [.ptr 0 0 0,.d (bX (.mk 1 [] (.mk 3 0 name [] [] T) val [] [] [] [] U))] (gW p m 0)):=by
 have H:=tE p D E name;rw[O]at H;obtain⟨v1,v2,v3,I⟩:=nV D E val V W m 0 (by omega) (by omega) hm (by omega);obtain⟨A',A0,A1,J⟩:=tD p (m.aF (aw p.vars val).1 (aR 0 val)) 1 (cx p.vars name).1 (by simp[Mk.aF];omega) (by decide);have e:m.aF ((aw p.vars val).1++[ins 6 (cx p.vars name).1 0 0 0]) (aR 0 val)=(m.aF (aw p.vars val).1 (aR 0 val)).put (ins 6 (cx p.vars name).1 0 0 0) (1+ -1):=by
  rw[BI];exact yT (by have:=oa 0 val;omega)
 rw[e];generalize (m.aF (aw p.vars val).1 (aR 0 val)).put (ins 6 (cx p.vars name).1 0 0 0) (1+ -1)=M at*;generalize m.aF (aw p.vars val).1 (aR 0 val)=N at*;simp at I J;rw[abu (by simp)];simp[f113,dI,H,aW,dx,I,J,aq];exact⟨_,_,_,rfl⟩
theorem acB{name:Tx}{T U:Int}{v:Vr}{y val:Ex}(O:bE p.vars name=some v)(A2:bn y=true)(A3:(bm p.vars y).e=0)(V:bn val=true)(W:(bm p.vars val).e=0)(m:Mk)(hm:0<=m.bU)(Z:m.out.length+(aw p.vars y).1.length+(aw p.vars val).1.length<99999999):
 gX p (m.aF ((aw p.vars y).1++((aw p.vars val).1++[ins 7 (cx p.vars name).1 0 v.lo v.hi])) (max (aR 0 y) (aR 1 val))) 0 (.ret (.aY [])) (ag ctx 113 [.ptr 0 0 0,.d (bX (.mk 1 [] (.mk 4 0 name [] [y] T) val [] [] [] [] U))] (gW p m 0)):=by
 have H:=tE p D E name;rw[O,kj O]at H;obtain⟨v1,v2,v3,I⟩:=nV D E y A2 A3 m 0 (by omega) (by omega) hm (by omega);have A4:=mo p.vars y;obtain⟨t1,t2,t3,Y⟩:=nV D E val V W (m.aF (aw p.vars y).1 (aR 0 y)) 1 (by omega) (by simp[Mk.aF];omega) (by simp[Mk.aF];omega) (by simp[Mk.aF];omega);obtain⟨A',A0,A1,J⟩:=lj p ((m.aF (aw p.vars y).1 (aR 0 y)).aF (aw p.vars val).1 (aR 1 val)) 2 (-2) (ins 7 (cx p.vars name).1 0 v.lo v.hi) (by simp[Mk.aF];omega) (by decide);have e:m.aF ((aw p.vars y).1++((aw p.vars val).1++[ins 7 (cx p.vars name).1 0 v.lo v.hi])) (max (aR 0 y) (aR 1 val))=((m.aF (aw p.vars y).1 (aR 0 y)).aF (aw p.vars val).1 (aR 1 val)).put (ins 7 (cx p.vars name).1 0 v.lo v.hi) (2+ -2):=by
  rw[LS,BI,acD];exact yT (by have:=oa 0 y;omega)
 rw[e];generalize ((m.aF (aw p.vars y).1 (aR 0 y)).aF (aw p.vars val).1 (aR 1 val)).put (ins 7 (cx p.vars name).1 0 v.lo v.hi) (2+ -2)=M at*;generalize (m.aF (aw p.vars y).1 (aR 0 y)).aF (aw p.vars val).1 (aR 1 val)=A5 at*;generalize m.aF (aw p.vars y).1 (aR 0 y)=N at*;simp[ins]at I Y J;rw[abu (by simp)];simp[f113,dI,H,aW,dx,aK,I,Y,J,aq];exact⟨_,_,_,rfl⟩
end
@[simp] def mqM(p:Pg)(m:Mk)(h:Int)(v1 v2 v3:Nat):List cq:=[⟨0,0,.box [.d (.str p.name),.d (.list (p.vars.map aW)),.d (.list (p.body.map bX)),.vec 1 v1 0 m.out.length,.d (.int .i64 m.cells),.d (.int .i64 h),.d (.int .i64 m.bU),.vec 2 v2 0 m.ex.length,.vec 3 v3 0 m.lv.length]⟩,⟨1,v1,.vec 5 (m.out.map cQ)⟩,⟨2,v2,.vv (m.ex.map gV) none⟩,⟨3,v3,.vec 1 (m.lv.map eh)⟩]
section
variable {p:Pg} (I:p.vars.length<=1000) (J:∀v∈p.vars,dN v=true)
include I J
theorem I3(x:Sm)(A':(je x).length<100000000)(at_:AV)(v:Vr)(k:Kt)(Q:Mk->bN->Prop)
 (O:∀(Y:Env) M v1 v2 v3 v6 E,Q M (k (.exit 0) ⟨60,aX,(0,true,.ptr 0 0 0)::(3,true,.ptr 250 1 0)::(4,true,at_)::(5,true,.ptr 350 1 0)::Y,mqM p M 0 v1 v2 v3++[⟨250,1,ie x⟩,⟨350,1,xE v⟩,⟨600,v6,E⟩]⟩)):
 ∀(fr fp:List Tx)(D T:List Ex)(m:Mk)(v1 v2 v3 v6:Nat)(E:aD),je x=fp++fr->dQ x=T++D->fp.length=T.length->fr.length=D.length->(∀c∈D,bn c=true/\(bm p.vars c).e=0)->0<=m.bU->m.out.length+(eD p.vars (lU x) fr D).length<99999999->
 Q (m.aF (eD p.vars (lU x) fr D) (mn D)) (aZ ctx 121 (.loop (Code.at (bg f121) [1,1,0,1,0,0])) ⟨60,aX,[(0,true,.ptr 0 0 0),(3,true,.ptr 250 1 0),(4,true,at_),(5,true,.ptr 350 1 0),(24,true,.d (.list ((je x).map .str))),(25,true,.d (.int .i64 (je x).length)),(26,true,.d (.int .i64 fp.length))],mqM p m 0 v1 v2 v3++[⟨250,1,ie x⟩,⟨350,1,xE v⟩,⟨600,v6,E⟩]⟩ k)
 |[],fp,D,T,m,v1,v2,v3,v6,E,U,V,W,Z,H,hm,y=>by
  have A0:D=[]:=xK (by simpa using Z.symm);subst A0;have e:m.aF (eD p.vars (lU x) [] []) (mn [])=m:=by
   simp[eD,mn,Mk.aF];cases m;simp at hm⊢;omega
  rw[e];have A7:fp.length=(je x).length:=by rw[U];simp
  have:=O [(24,true,.d (.list ((je x).map .str))),(25,true,.d (.int .i64 (je x).length)),(26,true,.d (.int .i64 (je x).length)),(27,true,.d (.bool false))] m v1 v2 v3 v6 E;simp at this;rw[A7,ai];simp[f121,this]
 |f::fr,fp,D,T,m,v1,v2,v3,v6,E,U,V,W,Z,H,hm,y=>by
  obtain⟨c,D,rfl⟩:∃c r,D=c::r:=by
   cases D with
   |nil=>simp at Z
   |cons c r=>exact⟨c,r,rfl⟩
  have AO:=mo p.vars c;have A8:eD p.vars (lU x) (f::fr) (c::D)=((aw p.vars c).1++[ins 6 (jM p.vars (lU x) f).1 0 0 0])++eD p.vars (lU x) fr D:=by simp[eD]
  rw[A8]at y⊢;simp at y;obtain⟨A9,AA⟩:=H c (by simp);obtain⟨b,A2⟩:=PY p I J (lU x) f;obtain⟨s1,s2,AP,A3⟩:=nV I J c A9 AA m 0 (by omega) (by omega) hm (by omega);obtain⟨AB,AC,AD,A4⟩:=tD p (m.aF (aw p.vars c).1 (aR 0 c)) 1 (jM p.vars (lU x) f).1 (by simp[Mk.aF];omega) (by decide);have e:m.aF (((aw p.vars c).1++[ins 6 (jM p.vars (lU x) f).1 0 0 0])++eD p.vars (lU x) fr D) (mn (c::D))=((m.aF (aw p.vars c).1 (aR 0 c)).put (ins 6 (jM p.vars (lU x) f).1 0 0 0) (1+ -1)).aF (eD p.vars (lU x) fr D) (mn D):=by
   rw[BI,LS];exact yT (by have:=oa 0 c;simp only[mn];omega)
  rw[e];have AE:0<=((m.aF (aw p.vars c).1 (aR 0 c)).put (ins 6 (jM p.vars (lU x) f).1 0 0 0) (1+ -1)).bU:=by simp[Mk.put,Mk.aF];omega
  have AF:((m.aF (aw p.vars c).1 (aR 0 c)).put (ins 6 (jM p.vars (lU x) f).1 0 0 0) (1+ -1)).out.length=m.out.length+(aw p.vars c).1.length+1:=by simp[Mk.put,Mk.aF];omega
  have ih:=λv1 v2 v3 v6 E=>I3 x A' at_ v k Q O fr (fp++[f]) D (T++[c]) ((m.aF (aw p.vars c).1 (aR 0 c)).put (ins 6 (jM p.vars (lU x) f).1 0 0 0) (1+ -1)) v1 v2 v3 v6 E (by simp[U]) (by simp[V]) (by simp[W]) (by simpa using Z) (λc A0=>H c (by simp[A0])) AE (by rw[AF];omega);clear O H e;generalize (m.aF (aw p.vars c).1 (aR 0 c)).put (ins 6 (jM p.vars (lU x) f).1 0 0 0) (1+ -1)=M at*;generalize m.aF (aw p.vars c).1 (aR 0 c)=N at*;have AG:fp.length<(je x).length:=by rw[U];simp
  have AH:(je x)[fp.length]=f:=by simp[U]
  have AI:fp.length<(dQ x).length:=by rw[V,W];simp
  have AJ:(dQ x)[fp.length]=c:=by simp[V,W]
  have AK:IntKind.i64.wrap ((fp.length:Int)+1)=(fp.length:Int)+1:=aB (by unfold bq;omega);rw[ai];simp at A3 A4 A2;simp[f121]at ih⊢;simp[AG,AH,AI,AJ,aK,eY,A2,A3,A4,aq,AK,ih]
theorem ajH{name:Tx}{to val:Ex}{conds:List Ex}{fields:List Tx}{line:Int}{v:Vr}(A5:bE p.vars name=some v)(AL:conds.length=fields.length)(A':fields.length<100000000)(H:∀c∈conds,bn c=true/\(bm p.vars c).e=0)(m:Mk)(hm:0<=m.bU)(y:m.out.length+(eD p.vars name fields conds).length<99999998):
 gX p (m.aF (eD p.vars name fields conds++[ins 12 (cx p.vars name).1 v.ty 0 0]) (mn conds)) 0 (.ret (.aY [])) (ag ctx 121 [.ptr 0 0 0,.d (bX (.mk 9 name to val conds [] fields [] line))] (gW p m 0)):=by
 have A6:=tE p I J name;rw[A5,kj A5]at A6;have AM:=λ(N:Mk) (h:N.out.length<100000000)=>lj p N 0 0 (ins 12 (cx p.vars name).1 v.ty 0 0) h (by decide);have e:m.aF (eD p.vars name fields conds++[ins 12 (cx p.vars name).1 v.ty 0 0]) (mn conds)=(m.aF (eD p.vars name fields conds) (mn conds)).put (ins 12 (cx p.vars name).1 v.ty 0 0) (0+0):=by
  rw[BI];exact yT (by omega)
 rw[e];obtain⟨AB,AC,AD,hu⟩:=AM (m.aF (eD p.vars name fields conds) (mn conds)) (by simp[Mk.aF];omega);have A1:=λ(at_:AV) (k:Kt) (Q:Mk->bN->Prop) O v6 E=>I3 I J (.mk 9 name to val conds [] fields [] line) A' at_ v k Q O fields [] conds [] m 0 0 0 v6 E rfl rfl rfl AL.symm H hm (by simpa using (by omega:m.out.length+(eD p.vars name fields conds).length<99999999));rw[amm (by simp)];generalize (m.aF (eD p.vars name fields conds) (mn conds)).put (ins 12 (cx p.vars name).1 v.ty 0 0) (0+0)=M at*;simp only[an6,abM,abL]at A1;generalize m.aF (eD p.vars name fields conds) (mn conds)=N at*;simp[ins]at hu;simp[f121]at A1⊢;simp[dI,A6,aW,dx,aq];refine A1 _ _ (λX r=>X=N->gX p M 0 (.ret (.aY [])) r) (λY X v1 v2 v3 v6 E AN=>?_) _ _ rfl;subst AN;simp[f121,hu];exact⟨_,_,_,rfl⟩
end
end Go.Am
end
section
namespace Go.Am
open Go
def dX:List (List ay×Int)->Int
 |[]=>0
 |t::r=>max t.2 (dX r)
def dS(ts:List (List ay×Int)):List (List ay):=ts.map (·.1)
def Mk.dD(m:Mk)(ts:List (List ay×Int))(bs:List (List ay))(c t:Int):Mk:=
 ⟨m.out++lZ 0 m.out.length (dS ts) bs,c,max m.bU t,iR m.ex (yP (-1) m.out.length (dS ts) bs),m.lv++yP (-2) m.out.length (dS ts) bs⟩
theorem PZ(m:Mk)(ts:List (List ay×Int))(h:0<=m.bU):m.dD ts [] m.cells 0=m:=by
 unfold Mk.dD;have O:lZ 0 m.out.length (dS ts) []=[]:=by unfold lZ;rfl
 have E:∀k,yP k m.out.length (dS ts) []=[]:=λk=>by unfold yP;rfl
 rw[O,E,E,pF];cases m;simp at h⊢;omega
def Mk.gY(m:Mk)(t:List ay×Int):Mk:=(m.aF t.1 t.2).put (ins 10 0 0 0 0) 0
theorem BJ(a b c:List ay)(x:ay)(v:Int)(k:Int)(T:k=((a.length+b.length:Nat):Int)):setAt (a++b++x::c) k v=a++b++{x with a:=v}::c:=by
 have:=uQ (a++b) x c v;simp only[aam]at this;rw[T];exact this
theorem Vc(m:Mk)(t:List ay×Int)(ts:List (List ay×Int))(b:List ay)(c u:Int)(U:0<=m.bU):
 ((m.gY t).aS b c u).lead (m.out.length+t.1.length:Nat)=m.dD (t::ts) [b] c (max t.2 u):=by
 unfold Mk.gY Mk.aF Mk.put Mk.aS Mk.lead Mk.dD dS;simp only[abR,lZ,yP,acH,afV,Mk.mk.injEq,ala];have D:(m.out++t.1++[ins 10 0 0 0 0]).length=m.out.length+t.1.length+1:=by simp;omega
 rw[D];refine⟨?_,by omega,rfl,rfl⟩;have:=BJ m.out t.1 (cU (m.out.length+t.1.length+1) b) (ins 10 0 0 0 0) ((m.out.length+t.1.length+1+b.length:Nat):Int) ((m.out.length+t.1.length:Nat):Int) rfl;simp only[ins]at this⊢;have E:((m.out++t.1++[({op:=10,a:=0,b:=0,n:=0,m:=0}:ay)]++cU (m.out.length+t.1.length+1) b).length:Int)=((m.out.length+t.1.length+1+b.length:Nat):Int):=by simp;omega
 rw[E];have H:m.out++t.1++[({op:=10,a:=0,b:=0,n:=0,m:=0}:ay)]++cU (m.out.length+t.1.length+1) b=m.out++t.1++({op:=10,a:=0,b:=0,n:=0,m:=0}:ay)::cU (m.out.length+t.1.length+1) b:=by simp
 rw[H,this];simp
theorem Vd(m:Mk)(t:List ay×Int)(ts:List (List ay×Int))(b:List ay)(bs:List (List ay))(c I u J:Int)(U:0<=m.bU)(V:bs≠[]):
 ((((m.gY t).aS b c u).put (ins 9 0 0 0 0) 0).lead (m.out.length+t.1.length:Nat)).dD ts bs I J=m.dD (t::ts) (b::bs) I (max t.2 (max u J)):=by
 have W:((((m.gY t).aS b c u).put (ins 9 0 0 0 0) 0).lead (m.out.length+t.1.length:Nat)).out.length=m.out.length+t.1.length+2+b.length:=by
  simp[Mk.gY,Mk.aF,Mk.put,Mk.aS,Mk.lead];omega
 have Y:((((m.gY t).aS b c u).put (ins 9 0 0 0 0) 0).lead (m.out.length+t.1.length:Nat)).out=m.out++(t.1++ins 10 (m.out.length+t.1.length+2+b.length) 0 0 0::(cU (m.out.length+t.1.length+1) b++[ins 9 0 0 0 0])):=by
  unfold Mk.gY Mk.aF Mk.put Mk.aS Mk.lead;simp only
  have D:(m.out++t.1++[ins 10 0 0 0 0]).length=m.out.length+t.1.length+1:=by simp;omega
  rw[D];have:=BJ m.out t.1 (cU (m.out.length+t.1.length+1) b++[ins 9 0 0 0 0]) (ins 10 0 0 0 0) ((m.out.length+t.1.length+2+b.length:Nat):Int) ((m.out.length+t.1.length:Nat):Int) rfl;have E:((m.out++t.1++[ins 10 0 0 0 0]++cU (m.out.length+t.1.length+1) b++[ins 9 0 0 0 0]).length:Int)=((m.out.length+t.1.length+2+b.length:Nat):Int):=by simp;omega
  rw[E];have H:m.out++t.1++[ins 10 0 0 0 0]++cU (m.out.length+t.1.length+1) b++[ins 9 0 0 0 0]=m.out++t.1++ins 10 0 0 0 0::(cU (m.out.length+t.1.length+1) b++[ins 9 0 0 0 0]):=by simp
  rw[H,this];simp[ins]
 have hex:((((m.gY t).aS b c u).put (ins 9 0 0 0 0) 0).lead (m.out.length+t.1.length:Nat)).ex=iR m.ex (cN (-1) (m.out.length+t.1.length+1) b):=by
  unfold Mk.gY Mk.aF Mk.put Mk.aS Mk.lead;simp only
  have D:(m.out++t.1++[ins 10 0 0 0 0]).length=m.out.length+t.1.length+1:=by simp;omega
  rw[D]
 have Z:((((m.gY t).aS b c u).put (ins 9 0 0 0 0) 0).lead (m.out.length+t.1.length:Nat)).lv=m.lv++cN (-2) (m.out.length+t.1.length+1) b:=by
  unfold Mk.gY Mk.aF Mk.put Mk.aS Mk.lead;simp only
  have D:(m.out++t.1++[ins 10 0 0 0 0]).length=m.out.length+t.1.length+1:=by simp;omega
  rw[D]
 have y:((((m.gY t).aS b c u).put (ins 9 0 0 0 0) 0).lead (m.out.length+t.1.length:Nat)).bU=max m.bU (max t.2 u):=by
  simp[Mk.gY,Mk.aF,Mk.put,Mk.aS,Mk.lead];omega
 generalize (((m.gY t).aS b c u).put (ins 9 0 0 0 0) 0).lead (m.out.length+t.1.length:Nat)=M at*;unfold Mk.dD;rw[W,Y,hex,Z,y];simp only[dS,abR,lZ,yP,aab V,Mk.mk.injEq,ala,LR,acD];exact⟨by simp,by omega,trivial⟩
theorem Ve(m:Mk)(b:List ay)(c u:Int):m.aS b c u=m.dD [] [b] c u:=by
 unfold Mk.aS Mk.dD dS;simp[lZ,yP]
end Go.Am
end
section
namespace Go.Am
open Go Go.Proofs Go.Proofs.Tryz
variable [Inhabited bV]
set_option maxRecDepth 20000
def LU(p:Pg)(m:Mk)(h:Int)(s:Sm)(o:Out)(r:bN):Prop:=∃v1 v2 v3,r=some (o,[(0,.box [.ptr 2 0 0]),(0,ie s),(0,iQ p m h 3 4 5 v1 v2 v3),(v1,.vec 5 (m.out.map cQ)),(v2,.vv (m.ex.map gV) none),(v3,.vec 1 (m.lv.map eh))])
section
variable {p:Pg} (D:p.vars.length<=1000) (H:∀v∈p.vars,dN v=true)
include D H
theorem ajI(s:Sm)(i:Nat)(c:Ex)(I:(dQ s)[i]?=some c)(O:bn c=true)(T:(bm p.vars c).e=0)(m:Mk)(hm:0<=m.bU)(Y:m.out.length+(aw p.vars c).1.length<99999999):
 LU p (m.aF (aw p.vars c).1 (aR 0 c)) 1 s (.ret (.aY [])) (ag ctx 115 [.d (.int .i64 i),.ptr 0 0 0,.ptr 1 0 0] [.box [.ptr 2 0 0],ie s,iQ p m 0 3 4 5 0 0 0,.vec 5 (m.out.map cQ),.vv (m.ex.map gV) none,.vec 1 (m.lv.map eh)]):=by
 obtain⟨v1,v2,v3,J⟩:=nV D H c O T m 0 (by omega) (by omega) hm (by omega);have U:i<(dQ s).length:=(D1.1 I).1;have V:(dQ s)[i]=c:=(D1.1 I).2;generalize m.aF (aw p.vars c).1 (aR 0 c)=M at*;simp at J;rw[amj (by simp)];simp[f115,aq,U,V,aK,J];exact⟨_,_,_,rfl⟩
end
mutual
def Ay:Sm->Nat
 | .mk _ _ _ _ _ _ _ blocks _=>zH blocks+1
def jP:List Sm->Nat
 |[]=>0
 |x::r=>max (Ay x) (jP r)
def zH:List (List Sm)->Nat
 |[]=>0
 |b::r=>max (jP b) (zH r)
end
theorem G7:∀{l:List (List Sm)}{b:List Sm},b∈l->jP b<=zH l
 |c::r,b,h=>by
  simp only[zH];rcases aaC.1 h with rfl|h
  ·omega
  ·have:=G7 h;omega
def xQ(p:Pg)(lp:Bool)(b:List Sm):Prop:=∀(m:Mk),0<=m.bU->0<=m.cells->jO m->(lp=true->m.ex≠[])->m.out.length+(ah p.vars b m.cells).1.length<99999990->(ah p.vars b m.cells).2<99999990->m.ex.length+jP b<99999990->
 gX p (m.aS (ah p.vars b m.cells).1 (ah p.vars b m.cells).2 (bx b)) 0 (.ret (.aY [])) (ag ctx 42 [.ptr 0 0 0,.d (.list (b.map bX))] (gW p m 0))
@[simp] def F9(p:Pg)(m:Mk)(s:Sm)(E:List Int)(v1 v2 v3 W:Nat):List cq:=[⟨0,0,iQ p m 0 3 4 5 v1 v2 v3⟩,⟨1,0,.box [.ptr 0 0 0]⟩,⟨2,0,ie s⟩,⟨3,v1,.vec 5 (m.out.map cQ)⟩,⟨4,v2,.vv (m.ex.map gV) none⟩,⟨5,v3,.vec 1 (m.lv.map eh)⟩,⟨500,W,.vec 1 (E.map eh)⟩]
theorem ajJ{p:Pg}{s:Sm}{blocks:List (List Sm)}{n i:Nat}{b:List Sm}(U:i<blocks.length)(V:blocks[i]=b)(W:i<n)(A2:n<99999990)(A3:i+1<blocks.length)(A4:blocks.length<99999990)
 {m H I:Mk} (O:LU p H 1 s (.ret (.aY [])) (ag ctx 115 [.d (.int .i64 i),.ptr 0 0 0,.ptr 1 0 0] [.box [.ptr 2 0 0],ie s,iQ p m 0 3 4 5 0 0 0,.vec 5 (m.out.map cQ),.vv (m.ex.map gV) none,.vec 1 (m.lv.map eh)]))
 (A7:H.out.length<99999990)
 (J:gX p I 0 (.ret (.aY [])) (ag ctx 42 [.ptr 0 0 0,.d (.list (b.map bX))] (gW p (H.put (ins 10 0 0 0 0) 0) 0)))
 (A8:H.out.length<I.out.length/\I.out.length<99999990) (E:List Int) (A9:E.length<99999990) (k:Kt) (Q:bN->Prop)
 (M:∀v1 v2 v3 D,Q (aZ ctx 114 (.loop (Code.at (bg f114) [1,0,1,0,0])) ⟨49,aX,[(0,true,.ptr 0 0 0),(1,true,.d (.list (blocks.map cL))),(2,true,.d (.int .i64 n)),(3,true,.fn 115 [.ptr 1 0 0,.ptr 2 0 0]),(8,true,.vec 500 D 0 (E.length+1)),(12,true,.d (.list (blocks.map cL))),(13,true,.d (.int .i64 blocks.length)),(14,true,.d (.int .i64 (i+1)))],F9 p ((I.put (ins 9 0 0 0 0) 0).lead H.out.length) s (E++[(I.out.length:Int)]) v1 v2 v3 D⟩ k))
 (v1 v2 v3 D:Nat):
 Q (aZ ctx 114 (.loop (Code.at (bg f114) [1,0,1,0,0])) ⟨49,aX,[(0,true,.ptr 0 0 0),(1,true,.d (.list (blocks.map cL))),(2,true,.d (.int .i64 n)),(3,true,.fn 115 [.ptr 1 0 0,.ptr 2 0 0]),(8,true,.vec 500 D 0 E.length),(12,true,.d (.list (blocks.map cL))),(13,true,.d (.int .i64 blocks.length)),(14,true,.d (.int .i64 i))],F9 p m s E v1 v2 v3 D⟩ k):=by
 obtain⟨AA,a2,a3,O⟩:=O;obtain⟨AB,AC,AD,T⟩:=BH p H 1 0 (by omega) (by decide);rw[show (1:Int)+ -1=0 by omega]at T;obtain⟨d1,d2,d3,J⟩:=J;obtain⟨AH,AI,AJ,A5⟩:=I1 p I 0 0 (by omega) (by decide);have A6:(I.put (ins 9 0 0 0 0) 0).out.length=I.out.length+1:=by simp[Mk.put]
 have Z:=uS p (I.put (ins 9 0 0 0 0) 0) 0 H.out.length (by rw[A6];omega) (by rw[A6];omega);have y:IntKind.i64.wrap ((i:Int)+1)=(i:Int)+1:=aB (by unfold bq;omega);have A':IntKind.i64.wrap ((blocks.length:Int)-1)=(blocks.length:Int)-1:=aB (by unfold bq;omega);have A0:(i:Int)<(blocks.length:Int)-1:=by omega
 have AE:E.length<=4611686018427387903:=by omega
 have AF:(E.length+1)*8<=140737488355328:=by omega
 have A1:(0:Int)<=H.out.length:=by omega
 generalize (I.put (ins 9 0 0 0 0) 0).lead H.out.length=AG at*;generalize I.put (ins 9 0 0 0 0) 0=AK at*;generalize H.put (ins 10 0 0 0 0) 0=M2 at*;rw[ai];simp at O T J A5 Z;simp[f114]at M⊢;simp[U,V,cL,W,O,T,J,A5,Z,y,A',A0,AE,AF,A1,M]
theorem ajK{p:Pg}{s:Sm}{blocks:List (List Sm)}{n i:Nat}{b:List Sm}(U:i<blocks.length)(V:blocks[i]=b)(W:i<n)(A2:n<99999990)(A3:¬i+1<blocks.length)(A4:blocks.length<99999990)
 {m H I:Mk} (O:LU p H 1 s (.ret (.aY [])) (ag ctx 115 [.d (.int .i64 i),.ptr 0 0 0,.ptr 1 0 0] [.box [.ptr 2 0 0],ie s,iQ p m 0 3 4 5 0 0 0,.vec 5 (m.out.map cQ),.vv (m.ex.map gV) none,.vec 1 (m.lv.map eh)]))
 (A7:H.out.length<99999990)
 (J:gX p I 0 (.ret (.aY [])) (ag ctx 42 [.ptr 0 0 0,.d (.list (b.map bX))] (gW p (H.put (ins 10 0 0 0 0) 0) 0)))
 (A8:H.out.length<I.out.length/\I.out.length<99999990) (E:List Int) (A9:E.length<99999990) (k:Kt) (Q:bN->Prop)
 (M:∀v1 v2 v3 D,Q (aZ ctx 114 (.loop (Code.at (bg f114) [1,0,1,0,0])) ⟨49,aX,[(0,true,.ptr 0 0 0),(1,true,.d (.list (blocks.map cL))),(2,true,.d (.int .i64 n)),(3,true,.fn 115 [.ptr 1 0 0,.ptr 2 0 0]),(8,true,.vec 500 D 0 E.length),(12,true,.d (.list (blocks.map cL))),(13,true,.d (.int .i64 blocks.length)),(14,true,.d (.int .i64 (i+1)))],F9 p (I.lead H.out.length) s E v1 v2 v3 D⟩ k))
 (v1 v2 v3 D:Nat):
 Q (aZ ctx 114 (.loop (Code.at (bg f114) [1,0,1,0,0])) ⟨49,aX,[(0,true,.ptr 0 0 0),(1,true,.d (.list (blocks.map cL))),(2,true,.d (.int .i64 n)),(3,true,.fn 115 [.ptr 1 0 0,.ptr 2 0 0]),(8,true,.vec 500 D 0 E.length),(12,true,.d (.list (blocks.map cL))),(13,true,.d (.int .i64 blocks.length)),(14,true,.d (.int .i64 i))],F9 p m s E v1 v2 v3 D⟩ k):=by
 obtain⟨AA,a2,a3,O⟩:=O;obtain⟨AB,AC,AD,T⟩:=BH p H 1 0 (by omega) (by decide);rw[show (1:Int)+ -1=0 by omega]at T;obtain⟨d1,d2,d3,J⟩:=J;have Z:=uS p I 0 H.out.length (by omega) (by omega);have y:IntKind.i64.wrap ((i:Int)+1)=(i:Int)+1:=aB (by unfold bq;omega);have A':IntKind.i64.wrap ((blocks.length:Int)-1)=(blocks.length:Int)-1:=aB (by unfold bq;omega);have A0:¬(i:Int)<(blocks.length:Int)-1:=by omega
 have A1:(0:Int)<=H.out.length:=by omega
 generalize I.lead H.out.length=AG at*;generalize H.put (ins 10 0 0 0 0) 0=M2 at*;rw[ai];simp at O T J Z;simp[f114]at M⊢;simp[U,V,cL,W,O,T,J,Z,y,A',A0,A1,M]
theorem ajL{p:Pg}{s:Sm}{blocks:List (List Sm)}{n i:Nat}{b:List Sm}(U:i<blocks.length)(V:blocks[i]=b)(W:¬i<n)(A2:n<99999990)(A3:¬i+1<blocks.length)(A4:blocks.length<99999990)
 {m I:Mk}
 (J:gX p I 0 (.ret (.aY [])) (ag ctx 42 [.ptr 0 0 0,.d (.list (b.map bX))] (gW p m 0)))
 (E:List Int) (k:Kt) (Q:bN->Prop)
 (M:∀v1 v2 v3 D,Q (aZ ctx 114 (.loop (Code.at (bg f114) [1,0,1,0,0])) ⟨49,aX,[(0,true,.ptr 0 0 0),(1,true,.d (.list (blocks.map cL))),(2,true,.d (.int .i64 n)),(3,true,.fn 115 [.ptr 1 0 0,.ptr 2 0 0]),(8,true,.vec 500 D 0 E.length),(12,true,.d (.list (blocks.map cL))),(13,true,.d (.int .i64 blocks.length)),(14,true,.d (.int .i64 (i+1)))],F9 p I s E v1 v2 v3 D⟩ k))
 (v1 v2 v3 D:Nat):
 Q (aZ ctx 114 (.loop (Code.at (bg f114) [1,0,1,0,0])) ⟨49,aX,[(0,true,.ptr 0 0 0),(1,true,.d (.list (blocks.map cL))),(2,true,.d (.int .i64 n)),(3,true,.fn 115 [.ptr 1 0 0,.ptr 2 0 0]),(8,true,.vec 500 D 0 E.length),(12,true,.d (.list (blocks.map cL))),(13,true,.d (.int .i64 blocks.length)),(14,true,.d (.int .i64 i))],F9 p m s E v1 v2 v3 D⟩ k):=by
 obtain⟨d1,d2,d3,J⟩:=J;have y:IntKind.i64.wrap ((i:Int)+1)=(i:Int)+1:=aB (by unfold bq;omega);have A':IntKind.i64.wrap ((blocks.length:Int)-1)=(blocks.length:Int)-1:=aB (by unfold bq;omega);have A0:¬(i:Int)<(blocks.length:Int)-1:=by omega
 rw[ai];simp at J;simp[f114]at M⊢;simp[U,V,cL,W,J,y,A',A0,M]
theorem G8{p:Pg}{s:Sm}{blocks:List (List Sm)}{n:Nat}{m:Mk}(E:List Int)(k:Kt)(Q:bN->Prop)
 (M:∀(Y:Env) v1 v2 v3 D,Q (k (.exit 0) ⟨49,aX,(0,true,.ptr 0 0 0)::(1,true,.d (.list (blocks.map cL)))::(2,true,.d (.int .i64 n))::(3,true,.fn 115 [.ptr 1 0 0,.ptr 2 0 0])::(8,true,.vec 500 D 0 E.length)::Y,F9 p m s E v1 v2 v3 D⟩))
 (v1 v2 v3 D:Nat) {i:Nat} (hi:i=blocks.length):
 Q (aZ ctx 114 (.loop (Code.at (bg f114) [1,0,1,0,0])) ⟨49,aX,[(0,true,.ptr 0 0 0),(1,true,.d (.list (blocks.map cL))),(2,true,.d (.int .i64 n)),(3,true,.fn 115 [.ptr 1 0 0,.ptr 2 0 0]),(8,true,.vec 500 D 0 E.length),(12,true,.d (.list (blocks.map cL))),(13,true,.d (.int .i64 blocks.length)),(14,true,.d (.int .i64 i))],F9 p m s E v1 v2 v3 D⟩ k):=by
 subst hi;rw[ai];simp[f114]at M⊢;exact M _ _ _ _ _
def Vf(p:Pg)(m:Mk)(h:Int)(s:Sm)(q:Int)(o:Out)(r:bN):Prop:=∃v1 v2 v3,r=some (o,[(0,.box [.ptr 3 0 0]),(0,ie s),(0,.box [.d (.int .i64 q)]),(0,iQ p m h 4 5 6 v1 v2 v3),(v1,.vec 5 (m.out.map cQ)),(v2,.vv (m.ex.map gV) none),(v3,.vec 1 (m.lv.map eh))])
@[simp] def Ga(p:Pg)(m:Mk)(s:Sm)(q:Int)(E:List Int)(v1 v2 v3 D:Nat):List cq:=[⟨0,0,iQ p m 0 4 5 6 v1 v2 v3⟩,⟨1,0,.box [.ptr 0 0 0]⟩,⟨2,0,ie s⟩,⟨3,0,.box [.d (.int .i64 q)]⟩,⟨4,v1,.vec 5 (m.out.map cQ)⟩,⟨5,v2,.vv (m.ex.map gV) none⟩,⟨6,v3,.vec 1 (m.lv.map eh)⟩,⟨500,D,.vec 1 (E.map eh)⟩]
theorem ajM{p:Pg}{s:Sm}{q:Int}{blocks:List (List Sm)}{n i:Nat}{b:List Sm}(U:i<blocks.length)(V:blocks[i]=b)(W:i<n)(A2:n<99999990)(A3:i+1<blocks.length)(A4:blocks.length<99999990)
 {m H I:Mk} (O:Vf p H 1 s q (.ret (.aY [])) (ag ctx 187 [.d (.int .i64 i),.ptr 0 0 0,.ptr 1 0 0,.ptr 2 0 0] [.box [.ptr 3 0 0],ie s,.box [.d (.int .i64 q)],iQ p m 0 4 5 6 0 0 0,.vec 5 (m.out.map cQ),.vv (m.ex.map gV) none,.vec 1 (m.lv.map eh)]))
 (A7:H.out.length<99999990)
 (J:gX p I 0 (.ret (.aY [])) (ag ctx 42 [.ptr 0 0 0,.d (.list (b.map bX))] (gW p (H.put (ins 10 0 0 0 0) 0) 0)))
 (A8:H.out.length<I.out.length/\I.out.length<99999990) (E:List Int) (A9:E.length<99999990) (k:Kt) (Q:bN->Prop)
 (M:∀v1 v2 v3 D,Q (aZ ctx 114 (.loop (Code.at (bg f114) [1,0,1,0,0])) ⟨49,aX,[(0,true,.ptr 0 0 0),(1,true,.d (.list (blocks.map cL))),(2,true,.d (.int .i64 n)),(3,true,.fn 187 [.ptr 1 0 0,.ptr 2 0 0,.ptr 3 0 0]),(8,true,.vec 500 D 0 (E.length+1)),(12,true,.d (.list (blocks.map cL))),(13,true,.d (.int .i64 blocks.length)),(14,true,.d (.int .i64 (i+1)))],Ga p ((I.put (ins 9 0 0 0 0) 0).lead H.out.length) s q (E++[(I.out.length:Int)]) v1 v2 v3 D⟩ k))
 (v1 v2 v3 D:Nat):
 Q (aZ ctx 114 (.loop (Code.at (bg f114) [1,0,1,0,0])) ⟨49,aX,[(0,true,.ptr 0 0 0),(1,true,.d (.list (blocks.map cL))),(2,true,.d (.int .i64 n)),(3,true,.fn 187 [.ptr 1 0 0,.ptr 2 0 0,.ptr 3 0 0]),(8,true,.vec 500 D 0 E.length),(12,true,.d (.list (blocks.map cL))),(13,true,.d (.int .i64 blocks.length)),(14,true,.d (.int .i64 i))],Ga p m s q E v1 v2 v3 D⟩ k):=by
 obtain⟨AA,a2,a3,O⟩:=O;obtain⟨AB,AC,AD,T⟩:=BH p H 1 0 (by omega) (by decide);rw[show (1:Int)+ -1=0 by omega]at T;obtain⟨d1,d2,d3,J⟩:=J;obtain⟨AH,AI,AJ,A5⟩:=I1 p I 0 0 (by omega) (by decide);have A6:(I.put (ins 9 0 0 0 0) 0).out.length=I.out.length+1:=by simp[Mk.put]
 have Z:=uS p (I.put (ins 9 0 0 0 0) 0) 0 H.out.length (by rw[A6];omega) (by rw[A6];omega);have y:IntKind.i64.wrap ((i:Int)+1)=(i:Int)+1:=aB (by unfold bq;omega);have A':IntKind.i64.wrap ((blocks.length:Int)-1)=(blocks.length:Int)-1:=aB (by unfold bq;omega);have A0:(i:Int)<(blocks.length:Int)-1:=by omega
 have AE:E.length<=4611686018427387903:=by omega
 have AF:(E.length+1)*8<=140737488355328:=by omega
 have A1:(0:Int)<=H.out.length:=by omega
 generalize (I.put (ins 9 0 0 0 0) 0).lead H.out.length=AG at*;generalize I.put (ins 9 0 0 0 0) 0=AK at*;generalize H.put (ins 10 0 0 0 0) 0=M2 at*;rw[ai];simp at O T J A5 Z;simp[f114]at M⊢;simp[U,V,cL,W,O,T,J,A5,Z,y,A',A0,AE,AF,A1,M]
theorem ajN{p:Pg}{s:Sm}{q:Int}{blocks:List (List Sm)}{n i:Nat}{b:List Sm}(U:i<blocks.length)(V:blocks[i]=b)(W:i<n)(A2:n<99999990)(A3:¬i+1<blocks.length)(A4:blocks.length<99999990)
 {m H I:Mk} (O:Vf p H 1 s q (.ret (.aY [])) (ag ctx 187 [.d (.int .i64 i),.ptr 0 0 0,.ptr 1 0 0,.ptr 2 0 0] [.box [.ptr 3 0 0],ie s,.box [.d (.int .i64 q)],iQ p m 0 4 5 6 0 0 0,.vec 5 (m.out.map cQ),.vv (m.ex.map gV) none,.vec 1 (m.lv.map eh)]))
 (A7:H.out.length<99999990)
 (J:gX p I 0 (.ret (.aY [])) (ag ctx 42 [.ptr 0 0 0,.d (.list (b.map bX))] (gW p (H.put (ins 10 0 0 0 0) 0) 0)))
 (A8:H.out.length<I.out.length/\I.out.length<99999990) (E:List Int) (A9:E.length<99999990) (k:Kt) (Q:bN->Prop)
 (M:∀v1 v2 v3 D,Q (aZ ctx 114 (.loop (Code.at (bg f114) [1,0,1,0,0])) ⟨49,aX,[(0,true,.ptr 0 0 0),(1,true,.d (.list (blocks.map cL))),(2,true,.d (.int .i64 n)),(3,true,.fn 187 [.ptr 1 0 0,.ptr 2 0 0,.ptr 3 0 0]),(8,true,.vec 500 D 0 E.length),(12,true,.d (.list (blocks.map cL))),(13,true,.d (.int .i64 blocks.length)),(14,true,.d (.int .i64 (i+1)))],Ga p (I.lead H.out.length) s q E v1 v2 v3 D⟩ k))
 (v1 v2 v3 D:Nat):
 Q (aZ ctx 114 (.loop (Code.at (bg f114) [1,0,1,0,0])) ⟨49,aX,[(0,true,.ptr 0 0 0),(1,true,.d (.list (blocks.map cL))),(2,true,.d (.int .i64 n)),(3,true,.fn 187 [.ptr 1 0 0,.ptr 2 0 0,.ptr 3 0 0]),(8,true,.vec 500 D 0 E.length),(12,true,.d (.list (blocks.map cL))),(13,true,.d (.int .i64 blocks.length)),(14,true,.d (.int .i64 i))],Ga p m s q E v1 v2 v3 D⟩ k):=by
 obtain⟨AA,a2,a3,O⟩:=O;obtain⟨AB,AC,AD,T⟩:=BH p H 1 0 (by omega) (by decide);rw[show (1:Int)+ -1=0 by omega]at T;obtain⟨d1,d2,d3,J⟩:=J;have Z:=uS p I 0 H.out.length (by omega) (by omega);have y:IntKind.i64.wrap ((i:Int)+1)=(i:Int)+1:=aB (by unfold bq;omega);have A':IntKind.i64.wrap ((blocks.length:Int)-1)=(blocks.length:Int)-1:=aB (by unfold bq;omega);have A0:¬(i:Int)<(blocks.length:Int)-1:=by omega
 have A1:(0:Int)<=H.out.length:=by omega
 generalize I.lead H.out.length=AG at*;generalize H.put (ins 10 0 0 0 0) 0=M2 at*;rw[ai];simp at O T J Z;simp[f114]at M⊢;simp[U,V,cL,W,O,T,J,Z,y,A',A0,A1,M]
theorem ajO{p:Pg}{s:Sm}{q:Int}{blocks:List (List Sm)}{n i:Nat}{b:List Sm}(U:i<blocks.length)(V:blocks[i]=b)(W:¬i<n)(A2:n<99999990)(A3:¬i+1<blocks.length)(A4:blocks.length<99999990)
 {m I:Mk}
 (J:gX p I 0 (.ret (.aY [])) (ag ctx 42 [.ptr 0 0 0,.d (.list (b.map bX))] (gW p m 0)))
 (E:List Int) (k:Kt) (Q:bN->Prop)
 (M:∀v1 v2 v3 D,Q (aZ ctx 114 (.loop (Code.at (bg f114) [1,0,1,0,0])) ⟨49,aX,[(0,true,.ptr 0 0 0),(1,true,.d (.list (blocks.map cL))),(2,true,.d (.int .i64 n)),(3,true,.fn 187 [.ptr 1 0 0,.ptr 2 0 0,.ptr 3 0 0]),(8,true,.vec 500 D 0 E.length),(12,true,.d (.list (blocks.map cL))),(13,true,.d (.int .i64 blocks.length)),(14,true,.d (.int .i64 (i+1)))],Ga p I s q E v1 v2 v3 D⟩ k))
 (v1 v2 v3 D:Nat):
 Q (aZ ctx 114 (.loop (Code.at (bg f114) [1,0,1,0,0])) ⟨49,aX,[(0,true,.ptr 0 0 0),(1,true,.d (.list (blocks.map cL))),(2,true,.d (.int .i64 n)),(3,true,.fn 187 [.ptr 1 0 0,.ptr 2 0 0,.ptr 3 0 0]),(8,true,.vec 500 D 0 E.length),(12,true,.d (.list (blocks.map cL))),(13,true,.d (.int .i64 blocks.length)),(14,true,.d (.int .i64 i))],Ga p m s q E v1 v2 v3 D⟩ k):=by
 obtain⟨d1,d2,d3,J⟩:=J;have y:IntKind.i64.wrap ((i:Int)+1)=(i:Int)+1:=aB (by unfold bq;omega);have A':IntKind.i64.wrap ((blocks.length:Int)-1)=(blocks.length:Int)-1:=aB (by unfold bq;omega);have A0:¬(i:Int)<(blocks.length:Int)-1:=by omega
 rw[ai];simp at J;simp[f114]at M⊢;simp[U,V,cL,W,J,y,A',A0,M]
theorem G9{p:Pg}{s:Sm}{q:Int}{blocks:List (List Sm)}{n:Nat}{m:Mk}(E:List Int)(k:Kt)(Q:bN->Prop)
 (M:∀(Y:Env) v1 v2 v3 D,Q (k (.exit 0) ⟨49,aX,(0,true,.ptr 0 0 0)::(1,true,.d (.list (blocks.map cL)))::(2,true,.d (.int .i64 n))::(3,true,.fn 187 [.ptr 1 0 0,.ptr 2 0 0,.ptr 3 0 0])::(8,true,.vec 500 D 0 E.length)::Y,Ga p m s q E v1 v2 v3 D⟩))
 (v1 v2 v3 D:Nat) {i:Nat} (hi:i=blocks.length):
 Q (aZ ctx 114 (.loop (Code.at (bg f114) [1,0,1,0,0])) ⟨49,aX,[(0,true,.ptr 0 0 0),(1,true,.d (.list (blocks.map cL))),(2,true,.d (.int .i64 n)),(3,true,.fn 187 [.ptr 1 0 0,.ptr 2 0 0,.ptr 3 0 0]),(8,true,.vec 500 D 0 E.length),(12,true,.d (.list (blocks.map cL))),(13,true,.d (.int .i64 blocks.length)),(14,true,.d (.int .i64 i))],Ga p m s q E v1 v2 v3 D⟩ k):=by
 subst hi;rw[ai];simp[f114]at M⊢;exact M _ _ _ _ _
@[simp] theorem aw7:List.range 7=[0,1,2,3,4,5,6]:=rfl
@[simp] theorem aw8:List.range 8=[0,1,2,3,4,5,6,7]:=rfl
@[simp] def mqL(p:Pg)(m:Mk)(h:Int)(s:Sm)(q:Int)(v1 v2 v3:Nat):List cq:=[⟨0,0,.box [.ptr 3 0 0]⟩,⟨1,0,ie s⟩,⟨2,0,.box [.d (.int .i64 q)]⟩,⟨3,0,iQ p m h 4 5 6 v1 v2 v3⟩,⟨4,v1,.vec 5 (m.out.map cQ)⟩,⟨5,v2,.vv (m.ex.map gV) none⟩,⟨6,v3,.vec 1 (m.lv.map eh)⟩]
theorem LV{p:Pg}{s:Sm}{q:Int}(l:List Int)(I:l.length<99999990)(k:Kt)(Q:Mk->bN->Prop)
 (E:∀(Y:Env) M v1 v2 v3,Q M (k (.exit 0) ⟨38,aX,Y,mqL p M 1 s q v1 v2 v3⟩)):
 ∀(rest pre:List Int)(m:Mk)(v1 v2 v3:Nat),l=pre++rest->rest.length%2=0->0<=m.bU->m.out.length+rest.length<99999990->2<=m.bU\/rest≠[]->
 Q (m.aF (eS q rest) 2) (aZ ctx 187 (.loop (Code.at (bg f187) [1,1,1,0,0])) ⟨38,aX,[(1,true,.ptr 0 0 0),(3,true,.ptr 2 0 0),(5,true,.d (.list (l.map λn=>.int .i64 n))),(6,true,.d (.int .i64 pre.length))],mqL p m 1 s q v1 v2 v3⟩ k)
 |[],pre,m,v1,v2,v3,D,he,hm,H,J=>by
  have y:pre.length=l.length:=by rw[D];simp
  have e:m.aF (eS q []) 2=m:=by
   simp[eS,Mk.aF];cases m;simp at hm J⊢;omega
  rw[e];have O:IntKind.i64.wrap ((l.length:Int)+1)=(l.length:Int)+1:=aB (by unfold bq;omega);have T:¬(l.length:Int)+1<l.length:=by omega
  rw[y,ai];simp at E;simp[f187,O,T,E]
 |[a],pre,m,v1,v2,v3,D,he,hm,H,J=>by simp at he
 |a::b::rest,pre,m,v1,v2,v3,D,he,hm,H,J=>by
  simp only[aan]at H he;obtain⟨A',A0,A1,g1⟩:=lj p m 1 1 (ins 14 q 0 a b) (by omega) (by decide);obtain⟨d1,d2,d3,g2⟩:=lj p (m.put (ins 14 q 0 a b) (1+1)) (1+1) (-1) (ins 8 1 21 0 0) (by simp[Mk.put];omega) (by decide);have e:m.aF (eS q (a::b::rest)) 2=((m.put (ins 14 q 0 a b) (1+1)).put (ins 8 1 21 0 0) (1+1+ -1)).aF (eS q rest) 2:=by
   simp only[eS,Mk.put,Mk.aF,Mk.mk.injEq];simp;omega
  rw[e];have ih:=λv1 v2 v3=>LV (p:=p) (s:=s) (q:=q) l I k Q E rest (pre++[a,b]) ((m.put (ins 14 q 0 a b) (1+1)).put (ins 8 1 21 0 0) (1+1+ -1)) v1 v2 v3 (by simp[D]) (by omega) (by simp[Mk.put];omega) (by simp[Mk.put];omega) (by simp[Mk.put];omega);clear E e;generalize (m.put (ins 14 q 0 a b) (1+1)).put (ins 8 1 21 0 0) (1+1+ -1)=M at*;generalize m.put (ins 14 q 0 a b) (1+1)=N at*;have A7:l.length=pre.length+(rest.length+2):=by rw[D];simp
  have O:IntKind.i64.wrap ((pre.length:Int)+1)=(pre.length:Int)+1:=aB (by unfold bq;omega);have T:(pre.length:Int)+1<l.length:=by omega
  have A2:IntKind.i64.wrap ((pre.length:Int)+2)=(pre.length:Int)+2:=aB (by unfold bq;omega);have i1:pre.length<l.length:=by omega
  have i2:l[pre.length]=a:=by simp[D]
  have i3:pre.length+1<l.length:=by omega
  have i4:l[pre.length+1]=b:=by simp[D]
  have i5:((pre.length:Int)+1).toNat=pre.length+1:=by omega
  have i6:(0:Int)<=(pre.length:Int)+1:=by omega
  rw[ai];simp[ins]at g1 g2;simp[f187]at ih⊢;simp[O,T,A2,i1,i2,i3,i4,i5,i6,g1,g2,aq,ih]
theorem aff{p:Pg}(s:Sm)(q:Int)(i:Nat)(l:List Int)(U:(u5 s)[i]?=some l)(V:xB l=true)(m:Mk)(hm:0<=m.bU)(H:m.out.length+l.length+1<99999990):
 Vf p (m.aF (ins 1 0 0 0 0::eS q l) 2) 1 s q (.ret (.aY [])) (ag ctx 187 [.d (.int .i64 i),.ptr 0 0 0,.ptr 1 0 0,.ptr 2 0 0] [.box [.ptr 3 0 0],ie s,.box [.d (.int .i64 q)],iQ p m 0 4 5 6 0 0 0,.vec 5 (m.out.map cQ),.vv (m.ex.map gV) none,.vec 1 (m.lv.map eh)]):=by
 have I:l.length<99999990:=by omega
 simp only[xB,Ds,ahK,aak,afP]at V;obtain⟨A3,W,_⟩:=V;obtain⟨A',A0,A1,g1⟩:=lj p m 0 1 (ins 1 0 0 0 0) (by omega) (by decide);have e:m.aF (ins 1 0 0 0 0::eS q l) 2=(m.put (ins 1 0 0 0 0) (0+1)).aF (eS q l) 2:=by
  simp only[Mk.put,Mk.aF,Mk.mk.injEq];simp;omega
 rw[e];have Z:=λk Q E v1 v2 v3=>LV (p:=p) (s:=s) (q:=q) l I k Q E l [] (m.put (ins 1 0 0 0 0) (0+1)) v1 v2 v3 rfl (by omega) (by simp[Mk.put];omega) (by simp[Mk.put];omega) (.inr (by intro h;simp[h]at A3));generalize (m.put (ins 1 0 0 0 0) (0+1)).aF (eS q l) 2=M at*;generalize m.put (ins 1 0 0 0 0) (0+1)=N at*;have A4:i<(u5 s).length:=(D1.1 U).1;have W:(u5 s)[i]=l:=(D1.1 U).2;rw[amO (by simp)];simp[ins]at g1;simp[f187]at Z⊢;simp[g1,A4,W,p7];refine Z _ (λX r=>X=M->Vf p M 1 s q (.ret (.aY [])) r) (λY X v1 v2 v3 A5=>?_) _ _ _ rfl;subst A5;have A6:List.range 7=[0,1,2,3,4,5,6]:=rfl;simp[A6];exact⟨_,_,_,rfl⟩
theorem yV(vs:List Vr):∀(l:List (List Sm))(c:Int),(aC vs l c).1.length=l.length
 |[],c=>by simp[aC]
 |b::r,c=>by simp[aC,yV vs r]
theorem P0{vs:List Vr}{l:List (List Sm)}{c:Int}:(aC vs l c).1=[]↔l=[]:=by
 constructor
 ·intro h;have:=yV vs l c;rw[h]at this;exact xK this.symm
 ·rintro rfl;simp[aC]
theorem acC(t:List ay)(ts:List (List ay))(b:List ay)(r:List (List ay)):t.length+1+b.length+(if r=[]then 0 else 1+(df ts r).length)<=(df (t::ts) (b::r)).length:=by
 simp only[df];by_cases h:r=[]
 ·subst h;simp[eP];omega
 ·simp[h,eP];omega
theorem E5(m:Mk)(t:List ay×Int):(m.gY t).out.length=m.out.length+t.1.length+1:=by simp[Mk.gY,Mk.aF,Mk.put];omega
theorem yW{m:Mk}{ts:List (List ay×Int)}{bs:List (List ay)}{c t u:Int}(h:max m.bU t=max m.bU u):m.dD ts bs c t=m.dD ts bs c u:=by
 unfold Mk.dD;rw[h]
theorem BK{vs:List Vr}:∀(l:List (List Sm))(c:Int),0<=c->(∀b∈l,∀c,0<=c->c<=(ah vs b c).2)->c<=(aC vs l c).2
 |[],c,_,_=>by simp[aC]
 |b::r,c,AC,h=>by
  have T:=h b (by simp) c AC;have V:=BK r (ah vs b c).2 (by omega) (λb A1=>h b (by simp[A1]));simp only[aC];omega
section
variable {p:Pg} {lp:Bool}
theorem P1{s:Sm}{blocks:List (List Sm)}{ts:List (List ay×Int)}(A8:blocks.length<99999990)(AQ:ts.length<=blocks.length)(AR:blocks.length<=ts.length+1)
 (AJ:∀(i:Nat)(t:List ay×Int),ts[i]?=some t->∀m:Mk,0<=m.bU->m.out.length+t.1.length<99999990->LU p (m.aF t.1 t.2) 1 s (.ret (.aY [])) (ag ctx 115 [.d (.int .i64 i),.ptr 0 0 0,.ptr 1 0 0] [.box [.ptr 2 0 0],ie s,iQ p m 0 3 4 5 0 0 0,.vec 5 (m.out.map cQ),.vv (m.ex.map gV) none,.vec 1 (m.lv.map eh)]))
 (AD:∀b∈blocks,xQ p lp b) (AE:∀b∈blocks,∀c,0<=c->c<=(ah p.vars b c).2) (k:Kt) (Q:Mk->List Int->bN->Prop)
 (A9:∀(Y:Env) M E v1 v2 v3 I,Q M E (k (.exit 0) ⟨49,aX,(0,true,.ptr 0 0 0)::(1,true,.d (.list (blocks.map cL)))::(2,true,.d (.int .i64 ts.length))::(3,true,.fn 115 [.ptr 1 0 0,.ptr 2 0 0])::(8,true,.vec 500 I 0 E.length)::Y,F9 p M s E v1 v2 v3 I⟩)):
 ∀(D O:List (List Sm))(H U:List (List ay×Int))(m:Mk)(E:List Int)(v1 v2 v3 I:Nat),blocks=O++D->ts=U++H->(O.length=U.length\/(H=[]/\D=[]))->0<=m.bU->0<=m.cells->jO m->(lp=true->m.ex≠[])->
 m.out.length+(df (dS H) (aC p.vars D m.cells).1).length<99999990->(aC p.vars D m.cells).2<99999990->(∀b∈blocks,m.ex.length+jP b<99999990)->E.length+D.length<99999980->
 Q (m.dD H (aC p.vars D m.cells).1 (aC p.vars D m.cells).2 (max (dX H) (b7 D))) (E++gG m.out.length (dS H) (aC p.vars D m.cells).1)
  (aZ ctx 114 (.loop (Code.at (bg f114) [1,0,1,0,0])) ⟨49,aX,[(0,true,.ptr 0 0 0),(1,true,.d (.list (blocks.map cL))),(2,true,.d (.int .i64 ts.length)),(3,true,.fn 115 [.ptr 1 0 0,.ptr 2 0 0]),(8,true,.vec 500 I 0 E.length),(12,true,.d (.list (blocks.map cL))),(13,true,.d (.int .i64 blocks.length)),(14,true,.d (.int .i64 O.length))],F9 p m s E v1 v2 v3 I⟩ k)
 |[],O,H,U,m,E,v1,v2,v3,I,T,V,J,hm,A2,A3,hex,W,A',A4,AF=>by
  have AG:H=[]:=by
   rcases J with J|J
   ·have A5:blocks.length=O.length:=by rw[T];simp
    have a2:ts.length=U.length+H.length:=by rw[V];simp
    exact xK (by omega)
   ·exact J.1
  subst AG;have AK:(aC p.vars [] m.cells)=([],m.cells):=by simp[aC]
  have Z:m.dD [] (aC p.vars [] m.cells).1 (aC p.vars [] m.cells).2 (max (dX []) (b7 []))=m:=by
   rw[AK];have:=PZ m [] hm;simpa [dX,b7]using this
  have y:E++gG m.out.length (dS []) (aC p.vars [] m.cells).1=E:=by rw[AK];simp[gG]
  rw[Z,y];exact G8 E k (Q m E) (λY v1 v2 v3 I=>A9 Y m E v1 v2 v3 I) v1 v2 v3 I (by rw[T];simp)
 |b::D,O,[],U,m,E,v1,v2,v3,I,T,V,J,hm,A2,A3,hex,W,A',A4,AF=>by
  have J:O.length=U.length:=by
   rcases J with J|J
   ·exact J
   ·cases J.2
  have A5:blocks.length=O.length+(D.length+1):=by rw[T];simp
  have a2:ts.length=U.length:=by rw[V];simp
  have A6:D=[]:=xK (by omega);subst A6;have AH:aC p.vars [b] m.cells=([(ah p.vars b m.cells).1],(ah p.vars b m.cells).2):=by simp[aC]
  rw[AH]at W A'⊢;have A_:m.out.length+(ah p.vars b m.cells).1.length<99999990:=by simpa [dS,df]using W
  have A0:=AD b (by rw[T];simp) m hm A2 A3 hex (by omega) A' (A4 b (by rw[T];simp));have Z:m.dD [] [(ah p.vars b m.cells).1] (ah p.vars b m.cells).2 (max (dX []) (b7 [b]))=m.aS (ah p.vars b m.cells).1 (ah p.vars b m.cells).2 (bx b):=by
   rw[<-Ve];exact pG (by simp only[dX,b7];omega)
  have y:E++gG m.out.length (dS []) [(ah p.vars b m.cells).1]=E:=by simp[dS,gG]
  simp only
  rw[Z,y];refine ajL (i:=O.length) (b:=b) (by omega) (by simp[T]) (by omega) (by omega) (by omega) A8 A0 E k (Q _ E) (λv1 v2 v3 I=>?_) v1 v2 v3 I;exact G8 E k (Q _ E) (λY v1 v2 v3 I=>A9 Y _ E v1 v2 v3 I) v1 v2 v3 I (i:=O.length+1) (by omega)
 |b::D,O,t::H,U,m,E,v1,v2,v3,I,T,V,J,hm,A2,A3,hex,W,A',A4,AF=>by
  have J:O.length=U.length:=by
   rcases J with J|J
   ·exact J
   ·cases J.2
  have A5:blocks.length=O.length+(D.length+1):=by rw[T];simp
  have a2:ts.length=U.length+(H.length+1):=by rw[V];simp
  have AH:aC p.vars (b::D) m.cells=((ah p.vars b m.cells).1::(aC p.vars D (ah p.vars b m.cells).2).1,(aC p.vars D (ah p.vars b m.cells).2).2):=by simp[aC]
  rw[AH]at W A'⊢;have AS:=acC t.1 (dS H) (ah p.vars b m.cells).1 (aC p.vars D (ah p.vars b m.cells).2).1;have Aa:=AE b (by rw[T];simp) m.cells A2;have Ab:=BK D (ah p.vars b m.cells).2 (by omega) (λb A1=>AE b (by rw[T];simp[A1]));have AT:dS (t::H)=t.1::dS H:=rfl;rw[AT]at W⊢;simp only at A' W;have AL:=AJ O.length t (by rw[V,J];simp) m hm (by omega);have AU:0<=(m.gY t).bU:=by simp[Mk.gY,Mk.aF,Mk.put];omega
  have A0:=AD b (by rw[T];simp) (m.gY t) AU A2 ((A3.aF _ _).put _ _) hex (by rw[E5];show _+(ah p.vars b m.cells).1.length<_;omega) (by show (ah p.vars b m.cells).2<_;omega) (A4 b (by rw[T];simp));have A0:gX p ((m.gY t).aS (ah p.vars b m.cells).1 (ah p.vars b m.cells).2 (bx b)) 0 (.ret (.aY [])) (ag ctx 42 [.ptr 0 0 0,.d (.list (b.map bX))] (gW p ((m.aF t.1 t.2).put (ins 10 0 0 0 0) 0) 0)):=A0;have A7:(m.aF t.1 t.2).out.length=m.out.length+t.1.length:=by simp[Mk.aF]
  have AA:((m.gY t).aS (ah p.vars b m.cells).1 (ah p.vars b m.cells).2 (bx b)).out.length=m.out.length+t.1.length+1+(ah p.vars b m.cells).1.length:=by
   show ((m.gY t).out++cU _ _).length=_;rw[aam,pW,E5]
  have AM:((m.aF t.1 t.2).out.length:Int)=((m.out.length+t.1.length:Nat):Int):=by rw[A7]
  by_cases A6:D=[]
  ·subst A6;have AG:H=[]:=xK (by simp at A5;omega);subst AG;have AV:aC p.vars [] (ah p.vars b m.cells).2=([],(ah p.vars b m.cells).2):=by simp[aC]
   rw[AV];have Z:m.dD [t] [(ah p.vars b m.cells).1] (ah p.vars b m.cells).2 (max (dX [t]) (b7 [b]))=((m.gY t).aS (ah p.vars b m.cells).1 (ah p.vars b m.cells).2 (bx b)).lead (m.aF t.1 t.2).out.length:=by
    rw[AM,Vc m t [] _ _ _ hm];exact yW (by simp only[dX,b7];omega)
   have y:E++gG m.out.length (t.1::dS []) [(ah p.vars b m.cells).1]=E:=by simp[dS,gG]
   simp only
   rw[Z,y];refine ajK (i:=O.length) (b:=b) (by omega) (by simp[T]) (by omega) (by omega) (by simp at A5;omega) A8 AL (by rw[A7];omega) A0 (by rw[A7,AA];omega) E (by omega) k (Q _ E) (λv1 v2 v3 I=>?_) v1 v2 v3 I;exact G8 E k (Q _ E) (λY v1 v2 v3 I=>A9 Y _ E v1 v2 v3 I) v1 v2 v3 I (i:=O.length+1) (by simp at A5;omega)
  ·have Ac:0<D.length:=by
    cases D with
    |nil=>exact absurd rfl A6
    |cons _ _=>simp
   have AI:(aC p.vars D (ah p.vars b m.cells).2).1≠[]:=λh=>A6 (P0.1 h);rw[aab AI]at AS;refine ajJ (i:=O.length) (b:=b) (by omega) (by simp[T]) (by omega) (by omega) (by omega) A8 AL (by rw[A7];omega) A0 (by rw[A7,AA];omega) E (by omega) k (Q _ _) (λv1 v2 v3 I=>?_) v1 v2 v3 I;have Z:=Vd m t H (ah p.vars b m.cells).1 (aC p.vars D (ah p.vars b m.cells).2).1 (ah p.vars b m.cells).2 (aC p.vars D (ah p.vars b m.cells).2).2 (bx b) (max (dX H) (b7 D)) hm AI;have y:gG m.out.length (t.1::dS H) ((ah p.vars b m.cells).1::(aC p.vars D (ah p.vars b m.cells).2).1)=((m.out.length+t.1.length+1+(ah p.vars b m.cells).1.length:Nat):Int)::gG (m.out.length+t.1.length+2+(ah p.vars b m.cells).1.length) (dS H) (aC p.vars D (ah p.vars b m.cells).2).1:=by
    simp only[gG,aab AI]
   have AN:((((m.gY t).aS (ah p.vars b m.cells).1 (ah p.vars b m.cells).2 (bx b)).put (ins 9 0 0 0 0) 0).lead (m.out.length+t.1.length:Nat)).out.length=m.out.length+t.1.length+2+(ah p.vars b m.cells).1.length:=by
    rw[G6];show (((m.gY t).aS _ _ _).out++_).length=_;rw[aam,AA];simp;omega
   have AB:((((m.gY t).aS (ah p.vars b m.cells).1 (ah p.vars b m.cells).2 (bx b)).put (ins 9 0 0 0 0) 0).lead (m.out.length+t.1.length:Nat)).cells=(ah p.vars b m.cells).2:=rfl;have AO:((((m.gY t).aS (ah p.vars b m.cells).1 (ah p.vars b m.cells).2 (bx b)).put (ins 9 0 0 0 0) 0).lead (m.out.length+t.1.length:Nat)).ex.length=m.ex.length:=by
    show (iR m.ex _).length=_;simp
   have AW:0<=((((m.gY t).aS (ah p.vars b m.cells).1 (ah p.vars b m.cells).2 (bx b)).put (ins 9 0 0 0 0) 0).lead (m.out.length+t.1.length:Nat)).bU:=by
    simp[Mk.lead,Mk.put,Mk.aS];omega
   have AX:m.dD (t::H) ((ah p.vars b m.cells).1::(aC p.vars D (ah p.vars b m.cells).2).1) (aC p.vars D (ah p.vars b m.cells).2).2 (max (dX (t::H)) (b7 (b::D)))=((((m.gY t).aS (ah p.vars b m.cells).1 (ah p.vars b m.cells).2 (bx b)).put (ins 9 0 0 0 0) 0).lead (m.out.length+t.1.length:Nat)).dD H (aC p.vars D (ah p.vars b m.cells).2).1 (aC p.vars D (ah p.vars b m.cells).2).2 (max (dX H) (b7 D)):=by
    rw[Z];exact yW (by simp only[dX,b7];omega)
   have ih:=P1 A8 AQ AR AJ AD AE k Q A9 D (O++[b]) H (U++[t]) ((((m.gY t).aS (ah p.vars b m.cells).1 (ah p.vars b m.cells).2 (bx b)).put (ins 9 0 0 0 0) 0).lead (m.out.length+t.1.length:Nat)) (E++[((m.out.length+t.1.length+1+(ah p.vars b m.cells).1.length:Nat):Int)]) v1 v2 v3 I (by simp[T]) (by simp[V]) (.inl (by simp[J])) AW (by rw[AB];omega) ((((((A3.aF _ _).put _ _).aS _ _ _).put _ _).lead _)) (λh=>by
    intro AC;have:=AO;rw[AC]at this;have AY:=hex h;cases AP:m.ex with
    |nil=>exact AY AP
    |cons _ _=>rw[AP]at this;simp at this) (by rw[AN,AB];omega) (by rw[AB];omega) (λb A1=>by rw[AO];exact A4 b A1) (by simp at AF⊢;omega)
   rw[AN,AB]at ih;simp only
   rw[AX,y,AM,AA];have AZ:E++((m.out.length+t.1.length+1+(ah p.vars b m.cells).1.length:Nat):Int)::gG (m.out.length+t.1.length+2+(ah p.vars b m.cells).1.length) (dS H) (aC p.vars D (ah p.vars b m.cells).2).1=E++[((m.out.length+t.1.length+1+(ah p.vars b m.cells).1.length:Nat):Int)]++gG (m.out.length+t.1.length+2+(ah p.vars b m.cells).1.length) (dS H) (aC p.vars D (ah p.vars b m.cells).2).1:=by simp
   rw[AZ];simpa using ih
end
section
variable {p:Pg} {lp:Bool}
theorem P3{s:Sm}{q:Int}{blocks:List (List Sm)}{ts:List (List ay×Int)}(A7:blocks.length<99999990)(AP:ts.length<=blocks.length)(AQ:blocks.length<=ts.length+1)
 (AI:∀(i:Nat)(t:List ay×Int),ts[i]?=some t->∀m:Mk,0<=m.bU->m.out.length+t.1.length<99999990->Vf p (m.aF t.1 t.2) 1 s q (.ret (.aY [])) (ag ctx 187 [.d (.int .i64 i),.ptr 0 0 0,.ptr 1 0 0,.ptr 2 0 0] [.box [.ptr 3 0 0],ie s,.box [.d (.int .i64 q)],iQ p m 0 4 5 6 0 0 0,.vec 5 (m.out.map cQ),.vv (m.ex.map gV) none,.vec 1 (m.lv.map eh)]))
 (AB:∀b∈blocks,xQ p lp b) (AC:∀b∈blocks,∀c,0<=c->c<=(ah p.vars b c).2) (k:Kt) (Q:Mk->List Int->bN->Prop)
 (A8:∀(Y:Env) M E v1 v2 v3 I,Q M E (k (.exit 0) ⟨49,aX,(0,true,.ptr 0 0 0)::(1,true,.d (.list (blocks.map cL)))::(2,true,.d (.int .i64 ts.length))::(3,true,.fn 187 [.ptr 1 0 0,.ptr 2 0 0,.ptr 3 0 0])::(8,true,.vec 500 I 0 E.length)::Y,Ga p M s q E v1 v2 v3 I⟩)):
 ∀(D O:List (List Sm))(H U:List (List ay×Int))(m:Mk)(E:List Int)(v1 v2 v3 I:Nat),blocks=O++D->ts=U++H->(O.length=U.length\/(H=[]/\D=[]))->0<=m.bU->0<=m.cells->jO m->(lp=true->m.ex≠[])->
 m.out.length+(df (dS H) (aC p.vars D m.cells).1).length<99999990->(aC p.vars D m.cells).2<99999990->(∀b∈blocks,m.ex.length+jP b<99999990)->E.length+D.length<99999980->
 Q (m.dD H (aC p.vars D m.cells).1 (aC p.vars D m.cells).2 (max (dX H) (b7 D))) (E++gG m.out.length (dS H) (aC p.vars D m.cells).1)
  (aZ ctx 114 (.loop (Code.at (bg f114) [1,0,1,0,0])) ⟨49,aX,[(0,true,.ptr 0 0 0),(1,true,.d (.list (blocks.map cL))),(2,true,.d (.int .i64 ts.length)),(3,true,.fn 187 [.ptr 1 0 0,.ptr 2 0 0,.ptr 3 0 0]),(8,true,.vec 500 I 0 E.length),(12,true,.d (.list (blocks.map cL))),(13,true,.d (.int .i64 blocks.length)),(14,true,.d (.int .i64 O.length))],Ga p m s q E v1 v2 v3 I⟩ k)
 |[],O,H,U,m,E,v1,v2,v3,I,T,V,J,hm,A1,A2,hex,W,A',A3,AD=>by
  have AE:H=[]:=by
   rcases J with J|J
   ·have A4:blocks.length=O.length:=by rw[T];simp
    have a2:ts.length=U.length+H.length:=by rw[V];simp
    exact xK (by omega)
   ·exact J.1
  subst AE;have AJ:(aC p.vars [] m.cells)=([],m.cells):=by simp[aC]
  have Z:m.dD [] (aC p.vars [] m.cells).1 (aC p.vars [] m.cells).2 (max (dX []) (b7 []))=m:=by
   rw[AJ];have:=PZ m [] hm;simpa [dX,b7]using this
  have y:E++gG m.out.length (dS []) (aC p.vars [] m.cells).1=E:=by rw[AJ];simp[gG]
  rw[Z,y];exact G9 E k (Q m E) (λY v1 v2 v3 I=>A8 Y m E v1 v2 v3 I) v1 v2 v3 I (by rw[T];simp)
 |b::D,O,[],U,m,E,v1,v2,v3,I,T,V,J,hm,A1,A2,hex,W,A',A3,AD=>by
  have J:O.length=U.length:=by
   rcases J with J|J
   ·exact J
   ·cases J.2
  have A4:blocks.length=O.length+(D.length+1):=by rw[T];simp
  have a2:ts.length=U.length:=by rw[V];simp
  have A5:D=[]:=xK (by omega);subst A5;have AF:aC p.vars [b] m.cells=([(ah p.vars b m.cells).1],(ah p.vars b m.cells).2):=by simp[aC]
  rw[AF]at W A'⊢;have A_:m.out.length+(ah p.vars b m.cells).1.length<99999990:=by simpa [dS,df]using W
  have A0:=AB b (by rw[T];simp) m hm A1 A2 hex (by omega) A' (A3 b (by rw[T];simp));have Z:m.dD [] [(ah p.vars b m.cells).1] (ah p.vars b m.cells).2 (max (dX []) (b7 [b]))=m.aS (ah p.vars b m.cells).1 (ah p.vars b m.cells).2 (bx b):=by
   rw[<-Ve];exact pG (by simp only[dX,b7];omega)
  have y:E++gG m.out.length (dS []) [(ah p.vars b m.cells).1]=E:=by simp[dS,gG]
  simp only
  rw[Z,y];refine ajO (i:=O.length) (b:=b) (by omega) (by simp[T]) (by omega) (by omega) (by omega) A7 A0 E k (Q _ E) (λv1 v2 v3 I=>?_) v1 v2 v3 I;exact G9 E k (Q _ E) (λY v1 v2 v3 I=>A8 Y _ E v1 v2 v3 I) v1 v2 v3 I (i:=O.length+1) (by omega)
 |b::D,O,t::H,U,m,E,v1,v2,v3,I,T,V,J,hm,A1,A2,hex,W,A',A3,AD=>by
  have J:O.length=U.length:=by
   rcases J with J|J
   ·exact J
   ·cases J.2
  have A4:blocks.length=O.length+(D.length+1):=by rw[T];simp
  have a2:ts.length=U.length+(H.length+1):=by rw[V];simp
  have AF:aC p.vars (b::D) m.cells=((ah p.vars b m.cells).1::(aC p.vars D (ah p.vars b m.cells).2).1,(aC p.vars D (ah p.vars b m.cells).2).2):=by simp[aC]
  rw[AF]at W A'⊢;have AR:=acC t.1 (dS H) (ah p.vars b m.cells).1 (aC p.vars D (ah p.vars b m.cells).2).1;have Aa:=AC b (by rw[T];simp) m.cells A1;have Ab:=BK D (ah p.vars b m.cells).2 (by omega) (λb AG=>AC b (by rw[T];simp[AG]));have AS:dS (t::H)=t.1::dS H:=rfl;rw[AS]at W⊢;simp only at A' W;have AK:=AI O.length t (by rw[V,J];simp) m hm (by omega);have AT:0<=(m.gY t).bU:=by simp[Mk.gY,Mk.aF,Mk.put];omega
  have A0:=AB b (by rw[T];simp) (m.gY t) AT A1 ((A2.aF _ _).put _ _) hex (by rw[E5];show _+(ah p.vars b m.cells).1.length<_;omega) (by show (ah p.vars b m.cells).2<_;omega) (A3 b (by rw[T];simp));have A0:gX p ((m.gY t).aS (ah p.vars b m.cells).1 (ah p.vars b m.cells).2 (bx b)) 0 (.ret (.aY [])) (ag ctx 42 [.ptr 0 0 0,.d (.list (b.map bX))] (gW p ((m.aF t.1 t.2).put (ins 10 0 0 0 0) 0) 0)):=A0;have A6:(m.aF t.1 t.2).out.length=m.out.length+t.1.length:=by simp[Mk.aF]
  have A9:((m.gY t).aS (ah p.vars b m.cells).1 (ah p.vars b m.cells).2 (bx b)).out.length=m.out.length+t.1.length+1+(ah p.vars b m.cells).1.length:=by
   show ((m.gY t).out++cU _ _).length=_;rw[aam,pW,E5]
  have AL:((m.aF t.1 t.2).out.length:Int)=((m.out.length+t.1.length:Nat):Int):=by rw[A6]
  by_cases A5:D=[]
  ·subst A5;have AE:H=[]:=xK (by simp at A4;omega);subst AE;have AU:aC p.vars [] (ah p.vars b m.cells).2=([],(ah p.vars b m.cells).2):=by simp[aC]
   rw[AU];have Z:m.dD [t] [(ah p.vars b m.cells).1] (ah p.vars b m.cells).2 (max (dX [t]) (b7 [b]))=((m.gY t).aS (ah p.vars b m.cells).1 (ah p.vars b m.cells).2 (bx b)).lead (m.aF t.1 t.2).out.length:=by
    rw[AL,Vc m t [] _ _ _ hm];exact yW (by simp only[dX,b7];omega)
   have y:E++gG m.out.length (t.1::dS []) [(ah p.vars b m.cells).1]=E:=by simp[dS,gG]
   simp only
   rw[Z,y];refine ajN (i:=O.length) (b:=b) (by omega) (by simp[T]) (by omega) (by omega) (by simp at A4;omega) A7 AK (by rw[A6];omega) A0 (by rw[A6,A9];omega) E (by omega) k (Q _ E) (λv1 v2 v3 I=>?_) v1 v2 v3 I;exact G9 E k (Q _ E) (λY v1 v2 v3 I=>A8 Y _ E v1 v2 v3 I) v1 v2 v3 I (i:=O.length+1) (by simp at A4;omega)
  ·have Ac:0<D.length:=by
    cases D with
    |nil=>exact absurd rfl A5
    |cons _ _=>simp
   have AH:(aC p.vars D (ah p.vars b m.cells).2).1≠[]:=λh=>A5 (P0.1 h);rw[aab AH]at AR;refine ajM (i:=O.length) (b:=b) (by omega) (by simp[T]) (by omega) (by omega) (by omega) A7 AK (by rw[A6];omega) A0 (by rw[A6,A9];omega) E (by omega) k (Q _ _) (λv1 v2 v3 I=>?_) v1 v2 v3 I;have Z:=Vd m t H (ah p.vars b m.cells).1 (aC p.vars D (ah p.vars b m.cells).2).1 (ah p.vars b m.cells).2 (aC p.vars D (ah p.vars b m.cells).2).2 (bx b) (max (dX H) (b7 D)) hm AH;have y:gG m.out.length (t.1::dS H) ((ah p.vars b m.cells).1::(aC p.vars D (ah p.vars b m.cells).2).1)=((m.out.length+t.1.length+1+(ah p.vars b m.cells).1.length:Nat):Int)::gG (m.out.length+t.1.length+2+(ah p.vars b m.cells).1.length) (dS H) (aC p.vars D (ah p.vars b m.cells).2).1:=by
    simp only[gG,aab AH]
   have AM:((((m.gY t).aS (ah p.vars b m.cells).1 (ah p.vars b m.cells).2 (bx b)).put (ins 9 0 0 0 0) 0).lead (m.out.length+t.1.length:Nat)).out.length=m.out.length+t.1.length+2+(ah p.vars b m.cells).1.length:=by
    rw[G6];show (((m.gY t).aS _ _ _).out++_).length=_;rw[aam,A9];simp;omega
   have AA:((((m.gY t).aS (ah p.vars b m.cells).1 (ah p.vars b m.cells).2 (bx b)).put (ins 9 0 0 0 0) 0).lead (m.out.length+t.1.length:Nat)).cells=(ah p.vars b m.cells).2:=rfl;have AN:((((m.gY t).aS (ah p.vars b m.cells).1 (ah p.vars b m.cells).2 (bx b)).put (ins 9 0 0 0 0) 0).lead (m.out.length+t.1.length:Nat)).ex.length=m.ex.length:=by
    show (iR m.ex _).length=_;simp
   have AV:0<=((((m.gY t).aS (ah p.vars b m.cells).1 (ah p.vars b m.cells).2 (bx b)).put (ins 9 0 0 0 0) 0).lead (m.out.length+t.1.length:Nat)).bU:=by
    simp[Mk.lead,Mk.put,Mk.aS];omega
   have AW:m.dD (t::H) ((ah p.vars b m.cells).1::(aC p.vars D (ah p.vars b m.cells).2).1) (aC p.vars D (ah p.vars b m.cells).2).2 (max (dX (t::H)) (b7 (b::D)))=((((m.gY t).aS (ah p.vars b m.cells).1 (ah p.vars b m.cells).2 (bx b)).put (ins 9 0 0 0 0) 0).lead (m.out.length+t.1.length:Nat)).dD H (aC p.vars D (ah p.vars b m.cells).2).1 (aC p.vars D (ah p.vars b m.cells).2).2 (max (dX H) (b7 D)):=by
    rw[Z];exact yW (by simp only[dX,b7];omega)
   have ih:=P3 A7 AP AQ AI AB AC k Q A8 D (O++[b]) H (U++[t]) ((((m.gY t).aS (ah p.vars b m.cells).1 (ah p.vars b m.cells).2 (bx b)).put (ins 9 0 0 0 0) 0).lead (m.out.length+t.1.length:Nat)) (E++[((m.out.length+t.1.length+1+(ah p.vars b m.cells).1.length:Nat):Int)]) v1 v2 v3 I (by simp[T]) (by simp[V]) (.inl (by simp[J])) AV (by rw[AA];omega) ((((((A2.aF _ _).put _ _).aS _ _ _).put _ _).lead _)) (λh=>by
    intro AX;have:=AN;rw[AX]at this;have AY:=hex h;cases AO:m.ex with
    |nil=>exact AY AO
    |cons _ _=>rw[AO]at this;simp at this) (by rw[AM,AA];omega) (by rw[AA];omega) (λb AG=>by rw[AN];exact A3 b AG) (by simp at AD⊢;omega)
   rw[AM,AA]at ih;simp only
   rw[AW,y,AL,A9];have AZ:E++((m.out.length+t.1.length+1+(ah p.vars b m.cells).1.length:Nat):Int)::gG (m.out.length+t.1.length+2+(ah p.vars b m.cells).1.length) (dS H) (aC p.vars D (ah p.vars b m.cells).2).1=E++[((m.out.length+t.1.length+1+(ah p.vars b m.cells).1.length:Nat):Int)]++gG (m.out.length+t.1.length+2+(ah p.vars b m.cells).1.length) (dS H) (aC p.vars D (ah p.vars b m.cells).2).1:=by simp
   rw[AZ];simpa using ih
end
end Go.Am
end
