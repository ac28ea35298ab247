/-
  Texts of one proof, one behind the other.
-/
import Derived.Test.YtccmboenpbjhnaaGreatDoorF4
import Derived.ProofKit
import Derived.ChangeArms
import Derived.ChangeCalls
import Derived.Laws.BitsLemmas
import Derived.Laws.Bits64
import Derived.Lib.Mul64
set_option linter.all false
section
namespace Go.Am
open Go Go.Proofs Go.Proofs.Tryz
variable [Inhabited bV]
set_option maxRecDepth 20000
def Mo(L:List bI)(f:Nat)(v:Ex)(c:List (List Int))(l:List (List Sm))(s:PS):PM Sm:=
 (eR L [69,76,83,69] s).bind λm s=>(if m=true then (eN L f [[69,78,68,95,67,65,83,69]] s).bind λz s=>.ok (l++[z]) s else .ok l s).bind λl s=>(dH L [69,78,68,95,67,65,83,69] s).bind λ_ s=>.ok (.mk 3 [] gF v [] c [] l 0) s
def OB(L:List bI)(f j:Nat)(v:Ex)(c:List (List Int))(l:List (List Sm))(s:PS):PM Sm:=
 (iW L s).bind λb s=>
  if b=true then (ji L f [] s).bind λx s=>(ib L f [] s).bind λb s=>if c.length<100000/\l.length<100000 then gA L j v (c++[x]) (l++[b]) s else .out
  else Mo L f v c l s
theorem abT{L:List bI}{f j:Nat}(U:j<=f)(v:Ex)(c:List (List Int))(l:List (List Sm))(s:PS):(gA L (j+1) v c l s).le (OB L f j v c l s):=by
 have M:=(JH L j f U).ib;have Y:=(JH L j f U).block;have V:=λl s=>DG L j f l s U;unfold gA OB Mo;by_cases O:l.length<100000
 ·simp only[aat O];repeat' with_reducible (first|exact M _ _|exact Y _ _|exact V _ _|exact PR.le.refl _|refine PR.le.bind ?_ (λ_ _=>?_)|refine PR.le.ite ?_ ?_)
 ·simp only[aab O];refine PR.le.bind (PR.le.refl _) λb s=>PR.le.ite (PR.le.bind (V _ _) λx s=>PR.le.bind (M _ _) λb s=>PR.le.ite (PR.le.refl _) (PR.le.refl _)) (PR.le.bind (PR.le.refl _) λm s=>PR.le.bind (PR.le.ite ?_ (PR.le.refl _)) λ_ _=>PR.le.refl _);cases I:eN L j [[69,78,68,95,67,65,83,69]] s with
  |ok a s=>exact PR.le.out _
  |out=>exact PR.le.out _
  |bad e s1=>
   rcases Y [[69,78,68,95,67,65,83,69]] s with h|h
   ·rw[I]at h;cases h
   ·rw[<-h,I];exact PR.le.refl _
def YU(L:List bI)(f j:Nat)(l:List Sm)(s:PS):PM (List Sm):=(pn L s).bind λb s=>if b=true then .ok l s else (lQ L f s).bind λx s=>if l.length<100000 then ib L j (l++[x]) s else .out
theorem aew{L:List bI}{f j:Nat}(U:j<=f)(l:List Sm)(s:PS):(ib L (j+1) l s).le (YU L f j l s):=by
 have M:=(JH L j f U).stmt;unfold ib YU;exact PR.le.bind (PR.le.refl _) λ_ _=>PR.le.ite (PR.le.refl _) (PR.le.bind (M _) λ_ _=>PR.le.refl _)
section
variable {L:List bI} {s:PS} {A2:bj} {f:Nat} (T:L.length<1000000) (F:Oz L A2 f)
def DJ(L:List bI)(s:PS)(x:Ex)(c:List (List Int))(l:List (List Sm))(v1 v2 v3:Nat)(J:aD):List cq:=pM L s++[⟨200,1,qd⟩,⟨250,1,.box [.d (.int .i64 3),.d (.str []),.d (.int .i64 0),.d (.int .i64 0),.d (.str []),.d (.str []),.lit (.slice none 0 0),.d (.int .i64 0),.d (.int .i64 (dj x)),.d (.int .i64 (nQ x)),.d (.str (gT x)),.d (.str (nR x)),.d (.list ((ic x).map bK)),.d (.int .i64 (iX x)),.lit (.slice none 0 0),.vec 251 v1 0 c.length,.lit (.slice none 0 0),.vec 252 v2 0 l.length,.d (.int .i64 0)]⟩,⟨251,v1,.vec 1 (c.map p7)⟩,⟨252,v2,.vec 1 (l.map cL)⟩,⟨300,v3,J⟩]
theorem OC{β:Type}(k:Bool->PS->PM β)(s:PS):(pn L s).bind k=(iW L s).bind λb s=>if b=true then k true s else (isS L [69,76,83,69] s).bind λb s=>if b=true then k true s else (isS L [69,78,68,95,67,65,83,69] s).bind k:=by
 unfold pn;cases iW L s with
 |out=>rfl
 |bad e s=>rfl
 |ok b s=>
  simp only[ir];cases b with
  |true=>rfl
  |false=>
   simp only[acW,acw];cases isS L [69,76,83,69] s with
   |out=>rfl
   |bad e s=>rfl
   |ok b s=>cases b<;>rfl
include T F
theorem Lj(x:Ex)(c:List (List Int))(A3:List (List Sm))(v1 v2:Nat)(k:Kt)(R:List Sm->PS->bN)(B:Er->PS->bN)
 (H:∀env e s r,k (.panic 161 (fD e)) ⟨56,aX,env,pM L s++r⟩=B e s)
 (D:∀l s v,l.length<=100000->Le (R l s) (k (.exit 2) ⟨56,aX,[(0,true,.ptr 0 0 0),(2,true,.ptr 200 1 0),(3,true,.ptr 250 1 0),(4,true,.d (.list (l.map bX))),(31,true,.d (.bool false))],DJ L s x c A3 v1 v2 v .dead⟩)):
 ∀(j:Nat),j<=f->∀(l:List Sm)(s:PS)(v:Nat),l.length<=100000->
 Le ((ib L j l s).el R B) (aZ (ctx.over A2) 293 (.loop (Code.at (bg f293) [1,1,1,0,0,0,1,0,1,1,0,0,0])) ⟨56,aX,[(0,true,.ptr 0 0 0),(2,true,.ptr 200 1 0),(3,true,.ptr 250 1 0),(4,true,.vec 300 v 0 l.length)],DJ L s x c A3 v1 v2 v (.vec 19 (l.map bX))⟩ k)
 |0,U,l,s,v,O=>by unfold ib;exact Le.none
 |j+1,U,l,s,v,O=>by
  have ih:=λy s v h=>Lj x c A3 v1 v2 k R B H D j (by omega) (l++[y]) s v h;have W:=F.E.out 309 (by decide);have Z:=F.E.out 223 (by decide);have M:=F.stmt;simp only[gS,b9,bA]at M;refine Le.trans (aew (f:=f) (show j<=f by omega) l s).el ?_;unfold YU;rw[OC];rw[ai];simp only[n7];have V:(l.length+1)*288<=140737488355328/\l.length<=4611686018427387903:=by omega
  have D:=λs v=>D l s v O;by_cases A1:l.length<100000
  ·have ih:=λy s v=>ih y s v (by simp;omega);simp[f293,pM,DJ,qd,aK,dI]at H ih D⊢;simp[Br T,DB,H,A1,M,V,W,Z,b9,bA,aq,jl,aK,dI];refine Le.el (λb s=>Le.ite (λI=>D _ _) λI=>Le.el (λb s=>Le.ite (λI=>D _ _) λI=>Le.el (λb s=>Le.ite (λI=>D _ _) λI=>Le.el (λy s=>?_) λ_ _=>Le.refl _) λ_ _=>Le.refl _) λ_ _=>Le.refl _) λ_ _=>Le.refl _;exact ih _ _ _
  ·simp only[aab A1];simp[f293,pM,DJ,qd,aK,dI]at H D⊢;simp[Br T,DB,H,M,V,W,Z,b9,bA,aq,jl,aK,dI];refine Le.el (λb s=>Le.ite (λI=>D _ _) λI=>Le.el (λb s=>Le.ite (λI=>D _ _) λI=>Le.el (λb s=>Le.ite (λI=>D _ _) λI=>Le.el (λy s=>?_) λ_ _=>Le.refl _) λ_ _=>Le.refl _) λ_ _=>Le.refl _) λ_ _=>Le.refl _;exact Le.none
theorem IH(x:Ex)(k:Kt)(R:Sm->PS->bN)(B:Er->PS->bN)
 (H:∀env e s r,k (.panic 161 (fD e)) ⟨56,aX,env,pM L s++r⟩=B e s)
 (D:∀c l s v1 v2 v3 J,c.length<=100000->l.length<=100000->Le ((Mo L f x c l s).el R B) (k (.exit 0) ⟨56,aX,[(0,true,.ptr 0 0 0),(2,true,.ptr 200 1 0),(3,true,.ptr 250 1 0),(11,true,.d (.bool false))],DJ L s x c l v1 v2 v3 J⟩)):
 ∀(j:Nat),j<=f->∀(c:List (List Int))(l:List (List Sm))(s:PS)(v1 v2 v3:Nat)(J:aD),c.length<=100000->l.length<=100000->
 Le ((gA L j x c l s).el R B) (aZ (ctx.over A2) 293 (.loop (Code.at (bg f293) [1,1,1,0,0,0])) ⟨56,aX,[(0,true,.ptr 0 0 0),(2,true,.ptr 200 1 0),(3,true,.ptr 250 1 0)],DJ L s x c l v1 v2 v3 J⟩ k)
 |0,U,c,l,s,v1,v2,v3,J,A4,O=>by unfold gA;exact Le.none
 |j+1,U,c,l,s,v1,v2,v3,J,A4,O=>by
  have ih:=λy b s v1 v2 v3 J M Y=>IH x k R B H D j (by omega) (c++[y]) (l++[b]) s v1 v2 v3 J M Y;have A5:=λy v1 v2 k R B H D s v=>Lj T F x (c++[y]) l v1 v2 k R B H D f (aad f) [] s v (by simp);have W:=F.E.out 309 (by decide);have Z:=F.E.out 310 (by decide);refine Le.trans (abT (f:=f) (show j<=f by omega) x c l s).el ?_;unfold OB;rw[ai];have V:(c.length+1)*24<=140737488355328/\c.length<=4611686018427387903:=by omega
  have A6:(l.length+1)*24<=140737488355328/\l.length<=4611686018427387903:=by omega
  have A0:=Br (L:=L) (s:=s) T;cases A7:iW L s with
  |out=>exact Le.none
  |bad e s1=>
   apply Le.of_eq;simp[A7,bA]at A0;simp[f293,pM,DJ,qd]at H⊢;simp[A0,H,W]
  |ok b s1=>
   simp only[ir];simp[A7,b9]at A0;cases b with
   |false=>
    have D:=D c l s1 v1 v2 v3 J A4 O;simp[f293,pM,DJ,qd]at D⊢;simpa [A0,W]using D
   |true=>
    have A':=abP T f s1;simp only[acH];cases A8:ji L f [] s1 with
    |out=>exact Le.none
    |bad e s2=>
     apply Le.of_eq;simp only[A8,Dt,gS,bA]at A';have A':=A' _ rfl;simp[f293,pM,DJ,qd]at H⊢;simp[A0,A',H,W,Z,aq,jl]
    |ok y s2=>
     simp only[A8,EE,gS,b9]at A';have A':=A' _ rfl;have ih:=ih y;simp only[ir,n7];simp[f293,pM,DJ,qd,cL]at H ih A5⊢;simp[A0,A',W,Z,aq,jl,V,A6];refine A5 _ _ _ _ _ _ ?_ ?_ _ _
     ·intro env e s r;simp[H]
     ·intro b s v I;by_cases A1:c.length<100000/\l.length<100000
      ·have ih:=λs v1 v2 v3 J=>ih b s v1 v2 v3 J (by omega) (by omega);simp[A1,A6,aq,cL];simpa using ih _ _ _ _ _
      ·rw[aab A1];exact Le.none
theorem aiP:Le ((lR L (f+1) s).el (λx s=>some (.ret (.d (bX x)),fH L s)) (c8 L)) (ag ctx 293 [.ptr 0 0 0] (pC L s)):=by
 have O:=λx k R B H D s v1 v2 v3 J=>IH T F x k R B H D f (aad f) [] [] s v1 v2 v3 J (by simp) (by simp);have W:=F.E.out 217 (by decide);have Z:=F.E.out 154 (by decide);have M:=F.E.expr;have Y:=λs=>F.block [[69,78,68,95,67,65,83,69]] s (by decide);simp only[gS,b9,bA]at M Y;refine Le.trans ?_ (arH F.E.le (by simp[pC]));unfold lR;simp only[n7];simp at Y;simp[f293,pM,DJ,qd]at O⊢;simp[gS,b9,bA,aq,jl,jd T,Z,M,aK];refine Le.el (λx s=>Le.el (λ_ s=>?_) λ_ _=>Le.refl _) λ_ _=>Le.refl _;refine O _ _ _ _ ?_ ?_ _ _ _ _ _
 ·intro env e s r;simp
 ·intro c l s v1 v2 v3 J A4 O;have V:(l.length+1)*24<=140737488355328/\l.length<=4611686018427387903:=by omega
  apply Le.of_eq;simp[Mo,jx T,jd T,W,Z,Y,V,b9,bA,aq,jl,dI,gF,cL]
end
end Go.Am
end
section
namespace Go.Am
open Go Go.Proofs
variable [Inhabited bV]
set_option maxRecDepth 20000
def OD(L:List bI)(x:Ex)(s:PS):bN:=some (.ret (.d (bK x)),fH L s)
def JI(L:List bI)(x:Sm)(s:PS):bN:=some (.ret (.d (bX x)),fH L s)
def aod(L:List bI)(l:List Sm)(s:PS):bN:=some (.ret (.d (.list (l.map bX))),fH L s)
inductive TA where
 |level (n:Nat) (s:PS)
 |unary (s:PS)
 |mY (s:PS)
 |index (s:PS)
 |expr (s:PS)
 |block (ws:List Tx) (s:PS)
 |stmt (s:PS)
 |ef (s:PS)
 |jk (s:PS)
 |cases (s:PS)
 |kJ (s:PS)
 |call (T:Tx) (s:PS)
def TA.vz:TA->FuncId
 | .level ..=>311
 | .unary ..=>315
 | .mY ..=>318
 | .index ..=>297
 | .expr ..=>295
 | .block ..=>157
 | .stmt ..=>224
 | .ef ..=>263
 | .jk ..=>292
 | .cases ..=>293
 | .kJ ..=>294
 | .call ..=>296
def TA.args:TA->List AV
 | .level n _=>[.ptr 0 0 0,.d (.int .i64 n)]
 | .block ws _=>[.ptr 0 0 0,.d (.list (ws.map .str))]
 | .call T _=>[.ptr 0 0 0,.d (.str T)]
 |_=>[.ptr 0 0 0]
def TA.st:TA->PS
 | .level _ s=>s
 | .unary s=>s
 | .mY s=>s
 | .index s=>s
 | .expr s=>s
 | .block _ s=>s
 | .stmt s=>s
 | .ef s=>s
 | .jk s=>s
 | .cases s=>s
 | .kJ s=>s
 | .call _ s=>s
def TA.uF(L:List bI)(f:Nat):TA->bN
 | .level n s=>(jH L f n s).el (OD L) (c8 L)
 | .unary s=>(jI L f s).el (OD L) (c8 L)
 | .mY s=>(jj L f s).el (OD L) (c8 L)
 | .index s=>(jJ L f s).el (OD L) (c8 L)
 | .expr s=>(gn L f s).el (OD L) (c8 L)
 | .block ws s=>if ws.length<1000 then (eN L f ws s).el (aod L) (c8 L)else none
 | .stmt s=>(lQ L f s).el (JI L) (c8 L)
 | .ef s=>(oB L f s).el (JI L) (c8 L)
 | .jk s=>(gR L f s).el (JI L) (c8 L)
 | .cases s=>(lR L f s).el (JI L) (c8 L)
 | .kJ s=>(iL L f s).el (JI L) (c8 L)
 | .call T s=>(oC L f T s).el (JI L) (c8 L)
theorem OE:∀{l V:List Vr},l.map aW=V.map aW->l=V
 |[],[],_=>rfl
 |[],_::_,h=>by simp at h
 |_::_,[],h=>by simp at h
 |a::l,b::V,h=>by
  simp only[abR,akv]at h;rw[aiE h.1,OE h.2]
theorem OF:∀{l V:List Tx},l.map D.str=V.map D.str->l=V
 |[],[],_=>rfl
 |[],_::_,h=>by simp at h
 |_::_,[],h=>by simp at h
 |a::l,b::V,h=>by
  simp only[abR,akv,D.str.injEq]at h;rw[h.1,OF h.2]
theorem aoe{L:List bI}{s W:PS}(h:pC L s=pC L W):s=W:=by
 simp only[pC,pB,akv,aD.box.injEq,aD.vec.injEq,AV.d.injEq,D.int.injEq,ala,aoz]at h;obtain⟨⟨O,H,_⟩,M⟩:=h;cases s;cases W;simp only at O H M;have M:=OE M;have O:=Int.ofNat.inj O;subst O H M;rfl
theorem aiQ{L:List bI}:∀(t U:TA),t.vz=U.vz->t.args=U.args->t.st=U.st->t=U
 |t,U,O,H,M=>by
  cases t<;>cases U<;>simp[TA.vz]at O<;>simp only[TA.st]at M<;>subst M<;>try rfl
  ·simp only[TA.args,akv,AV.d.injEq,D.int.injEq,ala,aoz]at H;obtain rfl:=Int.ofNat.inj H;rfl
  ·simp only[TA.args,akv,AV.d.injEq,D.list.injEq,ala,aoz]at H;rw[OF H]
  ·simp[TA.args]at H;subst H;rfl
theorem abU{L:List bI}(J:L.length<1000000)(f:Nat)(t:TA):Le (t.uF L f) (ag ctx t.vz t.args (pC L t.st)):=by
 intro r I;refine agd (X:=ctx) TA.vz TA.args (λt=>pC L t.st) (λf t=>t.uF L f) ?_ ?_ ?_ f t r I
 ·intro t;cases t<;>simp[TA.uF,jH,jI,jj,jJ,gn,eN,lQ,oB,gR,lR,iL,oC]
 ·intro t U O H M f;rw[aiQ (L:=L) t U O H (aoe M)]
 ·intro f Y O H M t r I;have E:Ox L Y f:=by
   refine⟨O,?_,λn s=>H (.level n s),λs=>H (.unary s),λs=>H (.mY s),λs=>H (.index s),λs=>H (.expr s)⟩;intro g Z;funext a c;refine M g (λt=>?_) a c;intro he;subst he;revert Z
   cases t<;>simp only[TA.vz]<;>decide
  have F:Oz L Y f:=by
   refine⟨E,λws s hw=>?_,λs=>H (.stmt s),λs=>H (.ef s),λs=>H (.jk s),λs=>H (.cases s),λs=>H (.kJ s),λT s=>H (.call T s)⟩;have:=H (.block ws s);simp only[TA.uF,aat hw]at this;exact this
  cases t with
  |level n s=>exact aiN J E n r I
  |unary s=>exact aiM J E r I
  |mY s=>exact aeu J E r I
  |index s=>exact aiL J E r I
  |expr s=>exact an8 J E r I
  |block ws s=>
   by_cases hw:ws.length<1000
   ·simp only[TA.uF,aat hw]at I;exact aiO J F ws hw r I
   ·simp only[TA.uF,aab hw]at I;cases I
  |stmt s=>exact aoa J F r I
  |ef s=>exact aob J F r I
  |jk s=>exact YR J F r I
  |cases s=>exact aiP J F r I
  |kJ s=>exact abQ J F r I
  |call T s=>exact aoc J F T r I
end Go.Am
end
section
namespace Go.Am
open Go
section
variable {α β:Type}
def Tr(r:PM α)(Q:α->PS->Prop):Prop:=match r with
 | .ok a s=>Q a s
 | .bad e _=>1<=e.line/\e.e≠0
 | .out=>False
theorem Tr.bind{r:PM α}{k:α->PS->PM β}{Q:α->PS->Prop}{A7:β->PS->Prop}(h:Tr r Q)(Z:∀a s,Q a s->Tr (k a s) A7):Tr (r.bind k) A7:=by
 cases r with
 |ok a s=>exact Z a s h
 |bad e s=>exact h
 |out=>exact h.elim
theorem Tr.mono{r:PM α}{Q A7:α->PS->Prop}(h:Tr r Q)(Z:∀a s,Q a s->A7 a s):Tr r A7:=by
 cases r with
 |ok a s=>exact Z a s h
 |bad e s=>exact h
 |out=>exact h.elim
theorem Tr.iff{c:Prop}[Decidable c]{a b:PM α}{Q:α->PS->Prop}(h:c->Tr a Q)(AE:¬c->Tr b Q):Tr (if c then a else b) Q:=by
 split
 ·exact h ‹_›
 ·exact AE ‹_›
end
structure OkL(L:List bI):Prop where
 ends:∀(i:Nat)(t:bI),L[i]?=some t->(t.kind=0↔i+1=L.length)
 line:∀(i:Nat)(t:bI),L[i]?=some t->1<=t.line
 len:L.length<=49999
structure Iv(L:List bI)(s:PS):Prop where
 at_:s.at_<L.length
 d0:0<=s.deep
 d1:s.deep<=32
 vs:s.vars.length<=64
structure Fw(L:List bI)(s E:PS):Prop where
 iv:Iv L E
 deep:E.deep=s.deep
 vars:E.vars=s.vars
 at_:s.at_<=E.at_
structure Fs(L:List bI)(s E:PS):Prop extends Fw L s E where
 lt:s.at_<E.at_
theorem Fw.refl{L s}(h:Iv L s):Fw L s s:=⟨h,rfl,rfl,aad _⟩
theorem Fw.trans{L s s1 s2}(h:Fw L s s1)(k:Fw L s1 s2):Fw L s s2:=⟨k.iv,k.deep.trans h.deep,k.vars.trans h.vars,akm h.at_ k.at_⟩
theorem Fs.trans{L s s1 s2}(h:Fs L s s1)(k:Fw L s1 s2):Fs L s s2:=⟨h.toFw.trans k,akA h.lt k.at_⟩
theorem Fw.aof{L s s1 s2}(h:Fw L s s1)(k:Fs L s1 s2):Fs L s s2:=⟨h.trans k.toFw,Nat.lt_of_le_of_lt h.at_ k.lt⟩
section
variable {L:List bI} (H:OkL L)
include H
theorem nS{s:PS}(h:Iv L s):Tr (jG L s) λt E=>E=s/\L[s.at_]?=some t:=by
 have:=h.at_;unfold jG;rw[abJ this];exact⟨rfl,rfl⟩
theorem rC{α:Type}{Q:α->PS->Prop}{e:Int}{t:bI}{s:PS}{i:Nat}(he:e≠0)(A8:L[i]?=some t):Tr (lO e t s) Q:=⟨H.line i t A8,he⟩
theorem tU{s:PS}{w:Tx}(h:Iv L s):Tr (isS L w s) λb E=>E=s/\∃t:bI,L[s.at_]?=some t/\b=xq t w:=by
 unfold isS;refine (nS H h).bind λt E ⟨I,J⟩=>?_;exact⟨I,t,J,rfl⟩
theorem OG{s:PS}(h:Iv L s):∀ws:List Tx,Tr (anyS L ws s) λb E=>E=s/\(b=true->∃(t:bI)(w:Tx),L[s.at_]?=some t/\w∈ws/\xq t w=true)
 |[]=>⟨rfl,by simp⟩
 |w::r=>by
  unfold anyS;refine (tU H h).bind λb E ⟨I,t,J,M⟩=>?_;subst I;refine Tr.iff (λD=>⟨rfl,λ_=>⟨t,w,J,by simp,by rw[<-M];exact D⟩⟩) λD=>?_;exact (OG h r).mono λb E ⟨I,J⟩=>⟨I,λD=>by obtain⟨t,w',a,b,c⟩:=J D;exact⟨t,w',a,by simp[b],c⟩⟩
theorem wg{s:PS}(h:Iv L s):Tr (lP L s) λt E=>L[s.at_]?=some t/\Fw L s E/\(t.kind≠0->s.at_<E.at_):=by
 unfold lP;refine (nS H h).bind λt E ⟨I,J⟩=>?_;subst I;refine⟨J,?_⟩;have he:=H.ends _ _ J;have AA:=h.at_;split
 ·rename_i A3;exact⟨.refl h,λZ=>absurd A3 Z⟩
 ·rename_i A3;have AQ:¬(E.at_+1=L.length):=λe=>A3 (he.2 e);exact⟨⟨⟨by simp only;omega,h.d0,h.d1,h.vs⟩,rfl,rfl,by simp⟩,λ_=>by simp⟩
theorem xy{t:bI}{w:Tx}(h:xq t w=true):t.kind≠0:=by
 simp[xq]at h;omega
theorem ek{s:PS}{w:Tx}(h:Iv L s):Tr (eR L w s) λb E=>(b=true->Fs L s E/\∃t:bI,L[s.at_]?=some t/\xq t w=true)/\(b=false->E=s):=by
 unfold eR;refine (tU H h).bind λb E ⟨I,t,J,M⟩=>?_;subst I;refine Tr.iff (λD=>?_) λD=>⟨(λh=>nomatch h),λ_=>rfl⟩;refine (wg H h).bind λu s1 ⟨U,V,Y⟩=>?_;rw[J]at U;cases U;refine⟨λ_=>⟨⟨V,Y (xy H (by rw[<-M];exact D))⟩,t,J,by rw[<-M];exact D⟩,(λh=>nomatch h)⟩
theorem dt{s:PS}{w:Tx}(h:Iv L s):Tr (dH L w s) λ_ E=>Fs L s E/\∃t:bI,L[s.at_]?=some t/\xq t w=true:=by
 unfold dH;refine (ek H h).bind λb E ⟨I,J⟩=>?_;refine Tr.iff (λD=>I D) λD=>?_;have:=J (by simpa using D);subst this;exact (nS H h).bind λt s1 ⟨_,k⟩=>rC H (by decide) k
theorem EV{s:PS}{k:Int}(h:Iv L s):Tr (gQ L k s) λt E=>Fw L s E/\L[s.at_]?=some t/\t.kind=k/\(k≠0->s.at_<E.at_):=by
 unfold gQ;refine (nS H h).bind λt E ⟨I,J⟩=>?_;subst I;refine Tr.iff (λD=>?_) λD=>?_
 ·refine (wg H h).mono λu s1 ⟨U,V,Y⟩=>?_;rw[J]at U;cases U;exact⟨V,J,D,λZ=>Y (by rw[D];exact Z)⟩
 ·exact (nS H h).bind λt s1 ⟨_,k⟩=>rC H (by decide) k
theorem jm{s:PS}{k:Int}(Z:k≠0)(h:Iv L s):Tr (gQ L k s) λt E=>Fs L s E/\L[s.at_]?=some t/\t.kind=k:=
 (EV H h).mono λ_ _ ⟨a,b,c,d⟩=>⟨⟨a,d Z⟩,b,c⟩
structure Dn(L:List bI)(s E:PS):Prop where
 iv:Iv L E
 deep:E.deep=s.deep+1
 vars:E.vars=s.vars
 at_:E.at_=s.at_
omit H in
theorem OH{n:Int}(h: -100<=n)(AE:n<=100000000):wr n=n:=IntWalk.i64_in _ (by omega)
theorem Mp{s:PS}(h:Iv L s):Tr (Dy L s) λ_ E=>Dn L s E:=by
 have A3:=h.d0;have I:=h.d1;unfold Dy;rw[OH (by omega) (by omega)];refine Tr.iff (λD=>?_) λD=>?_
 ·unfold jG;rw[abJ h.at_];exact rC H (by decide) (abJ h.at_)
 ·exact⟨⟨h.at_,by simp only;omega,by simp only;omega,h.vs⟩,rfl,rfl,rfl⟩
theorem Mq{α:Type}{s s1 s2:PS}(h:Iv L s)(AB:Dn L s s1)(O:Fw L s1 s2){k:PS->PM α}{Q:α->PS->Prop}(Z:∀E,Fw L s E->E.at_=s2.at_->Tr (k E) Q):Tr ((zA s2).bind λ_ s=>k s) Q:=by
 have A3:=h.d0;have I:=h.d1;have AF:=AB.deep;have AG:=O.deep;have AJ:s2.deep-1=s.deep:=by omega
 unfold zA;rw[AJ,OH (by omega) (by omega)];exact Z _ ⟨⟨O.iv.at_,A3,I,O.iv.vs⟩,rfl,O.vars.trans AB.vars,by have:=O.at_;have:=AB.at_;simp only;omega⟩ rfl
theorem OI{s:PS}(h:Iv L s):Tr (uG L s) λp E=>(p.2=true->Fs L s E)/\(p.2=false->E=s):=by
 unfold uG;refine (ek H h).bind λb s1 ⟨I,J⟩=>Tr.iff (λD=>?_) λD=>?_
 ·exact⟨λ_=>(I D).1,(λh=>nomatch h)⟩
 ·have:=J (by simpa using D);subst this;refine (ek H h).bind λb s2 ⟨I,J⟩=>Tr.iff (λD=>?_) λD=>?_
  ·exact⟨λ_=>(I D).1,(λh=>nomatch h)⟩
  ·exact⟨(λh=>nomatch h),λ_=>J (by simpa using D)⟩
theorem aex{s:PS}{k:Kd}(h:Iv L s):Tr (xr L k s) λAK E=>Fs L s E/\AK.at_=k.at_:=by
 unfold xr;refine (dt H h).bind λ_ s1 ⟨I,_⟩=>(jm H (by decide) I.iv).bind λlo s2 ⟨J,_⟩=>(dt H J.iv).bind λ_ A' ⟨M,_⟩=>(jm H (by decide) M.iv).bind λhi A2 ⟨T,A9,_⟩=>?_;refine Tr.iff (λ_=>rC H (by decide) A9) λ_=>?_;refine (dt H T.iv).bind λ_ A4 ⟨A0,_⟩=>(dt H A0.iv).bind λ_ AC ⟨A1,_⟩=>(OI H A1.iv).bind λp AL ⟨AD,AM⟩=>?_;have O:Fs L s AC:=I.trans (J.toFw.trans (M.toFw.trans (T.toFw.trans (A0.toFw.trans A1.toFw))));refine Tr.iff (λD=>⟨O.trans (AD D).toFw,rfl⟩) λD=>?_;have:=AM (by simpa using D);subst this;exact (nS H A1.iv).bind λt s1 ⟨_,k⟩=>rC H (by decide) k
theorem aey{s:PS}{kindN:Tx->Int}(h:Iv L s):Tr (xu L kindN s) λk E=>Fs L s E/\∃i:Nat,L[i]?=some k.at_:=by
 unfold xu;refine (nS H h).bind λt s1 ⟨e,U⟩=>?_;subst e;refine (OI H h).bind λp s2 ⟨J,A5⟩=>Tr.iff (λD=>⟨J D,_,U⟩) λD=>?_;have:=A5 (by simpa using D);subst this;refine (ek H h).bind λb A' ⟨M,AN⟩=>Tr.iff (λD=>?_) λD=>?_
 ·exact (aex H (M D).1.iv).mono λk A2 ⟨a,b⟩=>⟨(M D).1.trans a.toFw,_,by rw[b];exact U⟩
 ·have:=AN (by simpa using D);subst this;refine (jm H (by decide) h).bind λAR A2 ⟨T,A9,_⟩=>Tr.iff (λ_=>rC H (by decide) A9) λ_=>⟨T,_,U⟩
theorem DK{s:PS}(h:Iv L s):Tr (mW L s) λ_ E=>Fs L s E:=by
 unfold mW;refine (ek H h).bind λb s1 ⟨I,W⟩=>Tr.iff (λD=>?_) λD=>?_
 ·exact (jm H (by decide) (I D).1.iv).bind λt s2 ⟨J,_⟩=>(I D).1.trans J.toFw
 ·have:=W (by simpa using D);subst this;exact (jm H (by decide) h).bind λt s2 ⟨J,_⟩=>J
theorem aez{s:PS}(h:Iv L s):Tr (xw L s) λ_ E=>Fs L s E:=by
 unfold xw;refine (ek H h).bind λb s1 ⟨I,W⟩=>Tr.iff (λD=>(I D).1) λD=>?_;have:=W (by simpa using D);subst this;refine (ek H h).bind λb s1 ⟨I,W⟩=>Tr.iff (λD=>(I D).1) λD=>?_;have:=W (by simpa using D);subst this;exact (DK H h).bind λn s2 J=>J
theorem OJ:∀(f:Nat)(l:List bI)(s:PS),Iv L s->L.length-s.at_<=f->s.vars.length+l.length<=64->Tr (uH L f l s) λAH E=>Fs L s E/\E.vars.length+AH.length<=64
 |0,l,s,h,O,AA=>by have:=h.at_;omega
 |f+1,l,s,h,O,AA=>by
  unfold uH;refine (jm H (by decide) h).bind λt s1 ⟨I,U,_⟩=>?_;have AF:=I.vars;have AS:=I.lt;have:=h.at_;refine Tr.iff (λD=>?_) λD=>?_
  ·rw[aat (by rw[AF];omega)];exact rC H (by decide) U
  ·refine (ek H I.iv).bind λb s2 ⟨J,A5⟩=>Tr.iff (λA6=>?_) λA6=>?_
   ·have AG:=(J A6).1.vars;have AT:=(J A6).1.lt;exact (OJ f (l++[t]) s2 (J A6).1.iv (by omega) (by rw[AG];simp;omega)).mono λAH A' ⟨a,b⟩=>⟨I.trans ((J A6).1.toFw.trans a.toFw),b⟩
   ·have:=A5 (by simpa using A6);subst this;exact⟨I,by simp;omega⟩
theorem aiR{s:PS}{k:Kd}(h:Iv L s){i:Nat}(Z:L[i]?=some k.at_):Tr (EU L k s) λ_ E=>Fw L s E:=by
 unfold EU;refine (ek H h).bind λb s1 ⟨I,W⟩=>Tr.iff (λD=>?_) λD=>?_
 ·exact (aez H (I D).1.iv).bind λp s2 J=>Tr.iff (λ_=>rC H (by decide) Z) λ_=>(I D).1.toFw.trans J.toFw
 ·have:=W (by simpa using D);subst this;exact .refl h
structure Fv(L:List bI)(s E:PS):Prop where
 iv:Iv L E
 deep:E.deep=s.deep
 at_:s.at_<=E.at_
theorem QZ{s:PS}{kindN:Tx->Int}{f:Nat}{sec:Int}(h:Iv L s)(O:L.length-s.at_<=f):Tr (ni L kindN f sec s) λ_ E=>Fv L s E/\s.at_<E.at_:=by
 unfold ni;refine (OJ H f [] s h O (by simpa using h.vs)).bind λl s1 ⟨I,U⟩=>(dt H I.iv).bind λ_ s2 ⟨J,_⟩=>(aey H J.iv).bind λk A' ⟨M,i,Y⟩=>(aiR H M.iv Y).bind λn A2 T=>(dt H T.iv).bind λ_ A4 ⟨A0,_⟩=>?_;have O:Fs L s A4:=I.trans (J.toFw.trans (M.toFw.trans (T.trans A0.toFw)));have e:A4.vars=s1.vars:=by rw[A0.vars,T.vars,M.vars,J.vars]
 rw[aat (by rw[e];exact U)];exact⟨⟨⟨O.iv.at_,O.iv.d0,O.iv.d1,by simp only[aam,List.length_map];rw[e];exact U⟩,O.deep,O.at_⟩,O.lt⟩
theorem OK{kindN:Tx->Int}{sec:Int}:∀(f:Nat)(s:PS),Iv L s->L.length-s.at_+1<=f->Tr (uI L kindN sec f s) λ_ E=>Fv L s E/\s.at_<E.at_
 |0,s,h,O=>by have:=h.at_;omega
 |f+1,s,h,O=>by
  unfold uI;have:=h.at_;refine (ek H h).bind λb s1 ⟨I,W⟩=>Tr.iff (λD=>⟨⟨(I D).1.iv,(I D).1.deep,(I D).1.at_⟩,(I D).1.lt⟩) λD=>?_;have:=W (by simpa using D);subst this;refine (QZ H h (by omega)).bind λ_ s2 ⟨J,A5⟩=>?_;exact (OK f s2 J.iv (by omega)).mono λ_ A' ⟨a,b⟩=>⟨⟨a.iv,a.deep.trans J.deep,by have:=J.at_;have:=a.at_;omega⟩,by omega⟩
theorem YV{s:PS}(h:Iv L s):Tr (tt L s) λo E=>Fw L s E/\(o≠none->s.at_<E.at_):=by
 unfold tt;refine (ek H h).bind λb s1 ⟨I,W⟩=>Tr.iff (λD=>⟨(I D).1.toFw,λ_=>(I D).1.lt⟩) λD=>?_;have:=W (by simpa using D);subst this;refine (ek H h).bind λb s1 ⟨I,W⟩=>Tr.iff (λD=>⟨(I D).1.toFw,λ_=>(I D).1.lt⟩) λD=>?_;have:=W (by simpa using D);subst this;refine (ek H h).bind λb s1 ⟨I,W⟩=>Tr.iff (λD=>⟨(I D).1.toFw,λ_=>(I D).1.lt⟩) λD=>?_;have:=W (by simpa using D);subst this;exact⟨.refl h,λh=>absurd rfl h⟩
theorem zB{kindN:Tx->Int}:∀(f:Nat)(s:PS),Iv L s->L.length-s.at_+2<=f->Tr (kD L kindN f s) λ_ E=>Fv L s E
 |0,s,h,O=>by have:=h.at_;omega
 |f+1,s,h,O=>by
  unfold kD;have:=h.at_;refine (YV H h).bind λo s1 ⟨I,W⟩=>?_;cases o with
  |none=>exact⟨I.iv,I.deep,I.at_⟩
  |some sec=>
   have J:=W (by simp);refine (OK H f s1 I.iv (by omega)).bind λ_ s2 ⟨M,T⟩=>?_;exact (zB f s2 M.iv (by omega)).mono λ_ A' a=>⟨a.iv,a.deep.trans (M.deep.trans I.deep),by have:=M.at_;have:=a.at_;omega⟩
theorem FR{s:PS}(h:Iv L s):Tr (iW L s) λ_ E=>E=s:=by
 unfold iW;refine (nS H h).bind λt s1 ⟨e,U⟩=>?_;subst e;exact Tr.iff (λ_=>rfl) λ_=>(tU H h).mono λb E ⟨a,_⟩=>a
theorem YW{s:PS}(h:Iv L s):Tr (pn L s) λ_ E=>E=s:=by
 unfold pn;refine (FR H h).bind λt s1 e=>?_;subst e;refine Tr.iff (λ_=>rfl) λ_=>(tU H h).bind λb s2 ⟨e,_⟩=>?_;subst e;exact Tr.iff (λ_=>rfl) λ_=>(tU H h).mono λb E ⟨a,_⟩=>a
theorem Lk:∀(f:Nat)(l:List Int)(s:PS),Iv L s->L.length-s.at_<=f->l.length<=2*s.at_->Tr (ji L f l s) λ_ E=>Fs L s E
 |0,l,s,h,O,AA=>by have:=h.at_;omega
 |f+1,l,s,h,O,AA=>by
  unfold ji;have:=h.at_;have:=H.len;refine (DK H h).bind λlo s1 I=>(ek H I.iv).bind λb s2 ⟨J,A5⟩=>?_;have M:Tr (if b=true then mW L s2 else .ok lo s2) λ_ E=>Fw L s1 E:=by
   refine Tr.iff (λD=>(DK H (J D).1.iv).mono λ_ E h=>(J D).1.toFw.trans h.toFw) λD=>?_;have:=A5 (by simpa using D);subst this;exact Fw.refl I.iv
  refine M.bind λhi A' M=>?_;have:=I.lt;have:=M.at_;have:=M.iv.at_;rw[aat (by omega)];refine (ek H M.iv).bind λb A2 ⟨T,AO⟩=>Tr.iff (λD=>?_) λD=>?_
  ·have T:=(T D).1;have:=T.lt;exact (Lk f _ A2 T.iv (by omega) (by simp;omega)).mono λ_ E h=>I.trans (M.trans (T.toFw.trans h.toFw))
  ·have:=AO (by simpa using D);subst this;exact (dt H M.iv).bind λ_ A4 ⟨A0,_⟩=>I.trans (M.trans A0.toFw)
structure avB(L:List bI)(f:Nat):Prop where
 level:∀(n:Nat)(s:PS),n<=6->Iv L s->20*(L.length-s.at_)+(10-n)<=f->Tr (jH L f n s) λ_ E=>Fs L s E
 loop:∀(n:Nat)(x:Ex)(s:PS),n<6->Iv L s->20*(L.length-s.at_)+1<=f->Tr (mX L f n x s) λ_ E=>Fw L s E
 unary:∀s:PS,Iv L s->20*(L.length-s.at_)+3<=f->Tr (jI L f s) λ_ E=>Fs L s E
 unop:∀(op:Int)(t:bI)(s:PS),Iv L s->L[s.at_]?=some t->t.kind≠0->20*(L.length-s.at_)+2<=f->Tr (pV L f op t s) λ_ E=>Fs L s E
 expr:∀s:PS,Iv L s->20*(L.length-s.at_)+11<=f->Tr (gn L f s) λ_ E=>Fs L s E
 index:∀s:PS,Iv L s->20*(L.length-s.at_)+1<=f->Tr (jJ L f s) λ_ E=>Fs L s E
 mY:∀s:PS,Iv L s->20*(L.length-s.at_)+2<=f->Tr (jj L f s) λ_ E=>Fs L s E
theorem aog:∀f,avB L f
 |0=>⟨λn s _ h O=>by have:=h.at_;omega,λn x s _ h O=>by have:=h.at_;omega,λs h O=>by have:=h.at_;omega,λop t s h _ _ O=>by have:=h.at_;omega,λs h O=>by have:=h.at_;omega,λs h O=>by have:=h.at_;omega,λs h O=>by have:=h.at_;omega⟩
 |f+1=>by
  have ih:=aog f;refine⟨?_,?_,?_,?_,?_,?_,?_⟩
  ·intro n s AI h O;unfold jH;refine Tr.iff (λA1=>ih.unary s h (by omega)) λA1=>?_;rw[aat (by omega)];refine (ih.level (n+1) s (by omega) h (by omega)).bind λx s1 I=>?_;have:=I.lt;have:=I.iv.at_;exact (ih.loop n x s1 (by omega) I.iv (by omega)).mono λ_ s2 J=>I.trans J
  ·intro n x s AI h O;unfold mX;refine (OG H h _).bind λb s1 ⟨e,I⟩=>?_;subst e;refine Tr.iff (λD=>?_) λD=>.refl h;obtain⟨t,w,A8,_,hw⟩:=I D;refine (wg H h).bind λu s2 ⟨U,V,Y⟩=>?_;rw[A8]at U;cases U;have Y:=Y (xy H hw);have:=V.iv.at_;refine (ih.level (n+1) s2 (by omega) V.iv (by omega)).bind λy A' M=>?_;have:=M.lt;have:=M.iv.at_;exact Tr.iff (λ_=>V.trans M.toFw) λ_=>(ih.loop n _ A' AI M.iv (by omega)).mono λ_ A2 T=>V.trans (M.toFw.trans T)
  ·intro s h O;unfold jI;refine (nS H h).bind λt s1 ⟨e,U⟩=>?_;subst e;refine (tU H h).bind λb s2 ⟨e,t2,V,Y⟩=>?_;subst e;rw[U]at V;cases V;refine Tr.iff (λD=>ih.unop 6 t s2 h U (xy H (by rw[<-Y];exact D)) (by omega)) λD=>?_;refine (tU H h).bind λb A' ⟨e,t2,V,Y⟩=>?_;subst e;rw[U]at V;cases V;exact Tr.iff (λD=>ih.unop 7 t A' h U (xy H (by rw[<-Y];exact D)) (by omega)) λD=>ih.mY A' h (by omega)
  ·intro op t s h A8 Z O;unfold pV;refine (Mp H h).bind λ_ s1 I=>(wg H I.iv).bind λu s2 ⟨U,V,Y⟩=>?_;rw[I.at_,A8]at U;cases U;have Y:=Y Z;have:=V.iv.at_;have:=I.at_;refine (ih.unary s2 V.iv (by omega)).bind λx A' M=>?_;exact Mq H h I (V.trans M.toFw) λE T A0=>⟨T,by have:=M.lt;omega⟩
  ·intro s h O;unfold gn;exact ih.level 0 s (by omega) h (by omega)
  ·intro s h O;unfold jJ;refine (Mp H h).bind λ_ s1 I=>(dt H I.iv).bind λ_ s2 ⟨J,_⟩=>?_;have:=I.at_;have:=J.lt;have:=J.iv.at_;refine (ih.expr s2 J.iv (by omega)).bind λx A' M=>(dt H M.iv).bind λ_ A2 ⟨T,_⟩=>?_;exact Mq H h I (J.toFw.trans (M.toFw.trans T.toFw)) λE A0 A1=>⟨A0,by have:=M.lt;have:=T.lt;omega⟩
  ·intro s h O;unfold jj;refine (nS H h).bind λt s1 ⟨e,U⟩=>?_;subst e;refine Tr.iff (λZ=>?_) λZ=>?_
   ·refine (wg H h).bind λu s2 ⟨V,Y,A9⟩=>?_;rw[U]at V;cases V;exact⟨Y,A9 (by rw[Z];decide)⟩
   refine (ek H h).bind λb s2 ⟨I,W⟩=>Tr.iff (λD=>(I D).1) λD=>?_;have:=W (by simpa using D);subst this;refine (ek H h).bind λb s2 ⟨I,W⟩=>Tr.iff (λD=>(I D).1) λD=>?_;have:=W (by simpa using D);subst this;refine (tU H h).bind λb A' ⟨e,t2,V,Y⟩=>?_;subst e;rw[U]at V;cases V;refine Tr.iff (λD=>?_) λD=>?_
   ·refine (Mp H h).bind λ_ s1 I=>(wg H I.iv).bind λu s2 ⟨q1,q2,q3⟩=>?_;rw[I.at_,U]at q1;cases q1;have q3:=q3 (xy H (by rw[<-Y];exact D));have:=q2.iv.at_;have:=I.at_;refine (ih.expr s2 q2.iv (by omega)).bind λx A' M=>(dt H M.iv).bind λ_ A2 ⟨T,_⟩=>?_;exact Mq H h I (q2.trans (M.toFw.trans T.toFw)) λE A0 A1=>⟨A0,by have:=M.lt;have:=T.lt;omega⟩
   refine (jm H (by decide) h).bind λ_ A2 ⟨T,_⟩=>?_;have:=T.lt;have:=T.iv.at_;refine (tU H T.iv).bind λb A4 ⟨e,_⟩=>?_;subst e;refine Tr.iff (λD=>(ih.index A4 T.iv (by omega)).bind λx AC A1=>T.trans A1.toFw) λD=>?_;refine (ek H T.iv).bind λb AC ⟨A1,AP⟩=>Tr.iff (λD=>(jm H (by decide) (A1 D).1.iv).bind λu AL ⟨AD,_⟩=>T.trans ((A1 D).1.toFw.trans AD.toFw)) λD=>?_;have:=AP (by simpa using D);subst this;exact T
end
section
variable {L:List bI} (J:OkL L)
include J
structure avC(L:List bI)(f:Nat):Prop where
 block:∀(ws:List Tx)(s:PS),Iv L s->20*(L.length-s.at_)+19<=f->Tr (eN L f ws s) λ_ O=>Fw L s O
 loop:∀(ws:List Tx)(l:List Sm)(s:PS),Iv L s->l.length<=s.at_->20*(L.length-s.at_)+18<=f->Tr (kV L f ws l s) λ_ O=>Fw L s O
 stmt:∀s:PS,Iv L s->20*(L.length-s.at_)+17<=f->Tr (lQ L f s) λ_ O=>Fs L s O
 ef:∀s:PS,Iv L s->20*(L.length-s.at_)+16<=f->Tr (oB L f s) λ_ O=>Fs L s O
 jk:∀s:PS,Iv L s->20*(L.length-s.at_)+15<=f->Tr (gR L f s) λ_ O=>Fs L s O
 dF:∀(c:List Ex)(l:List (List Sm))(s:PS),Iv L s->c.length<=s.at_->l.length<=s.at_->20*(L.length-s.at_)+14<=f->Tr (dF L f c l s) λ_ O=>Fs L s O
 cases:∀s:PS,Iv L s->20*(L.length-s.at_)+15<=f->Tr (lR L f s) λ_ O=>Fs L s O
 gA:∀(v:Ex)(c:List (List Int))(l:List (List Sm))(s:PS),Iv L s->c.length<=s.at_->l.length<=s.at_->20*(L.length-s.at_)+14<=f->Tr (gA L f v c l s) λ_ O=>Fs L s O
 ib:∀(l:List Sm)(s:PS),Iv L s->l.length<=s.at_->20*(L.length-s.at_)+18<=f->Tr (ib L f l s) λ_ O=>Fw L s O
 kJ:∀s:PS,Iv L s->20*(L.length-s.at_)+15<=f->Tr (iL L f s) λ_ O=>Fs L s O
 call:∀(Z:Tx)(s:PS),Iv L s->20*(L.length-s.at_)+15<=f->Tr (oC L f Z s) λ_ O=>Fs L s O
 iM:∀(Z:Tx)(c:List Tx)(l:List Ex)(s:PS),Iv L s->c.length<=s.at_->l.length<=s.at_->20*(L.length-s.at_)+14<=f->Tr (iM L f Z c l s) λ_ O=>Fs L s O
theorem aeA:∀f,avC L f
 |0=>⟨λ_ s h U=>by have:=h.at_;omega,λ_ _ s h _ U=>by have:=h.at_;omega,λs h U=>by have:=h.at_;omega,λs h U=>by have:=h.at_;omega,λs h U=>by have:=h.at_;omega,
  λ_ _ s h _ _ U=>by have:=h.at_;omega,λs h U=>by have:=h.at_;omega,λ_ _ _ s h _ _ U=>by have:=h.at_;omega,λ_ s h _ U=>by have:=h.at_;omega,λs h U=>by have:=h.at_;omega,
  λ_ s h U=>by have:=h.at_;omega,λ_ _ _ s h _ _ U=>by have:=h.at_;omega⟩
 |f+1=>by
  have ih:=aeA f;have A0:=aog J f;have AL:=J.len;refine⟨?_,?_,?_,?_,?_,?_,?_,?_,?_,?_,?_,?_⟩
  ·intro ws s h U;unfold eN;exact ih.loop ws [] s h (by simp) (by omega)
  ·intro ws l s h A6 U;unfold kV;have:=h.at_;refine (OG J h _).bind λb s1 ⟨e,E⟩=>?_;subst e;refine Tr.iff (λH=>.refl h) λH=>(ih.stmt s1 h (by omega)).bind λx s2 D=>?_;have:=D.lt;have:=D.iv.at_;rw[aat (by omega)];exact (ih.loop ws _ s2 D.iv (by simp;omega) (by omega)).mono λ_ V I=>D.toFw.trans I
  ·intro s h U;unfold lQ;refine (nS J h).bind λt s1 ⟨e,AM⟩=>?_;subst e;refine (Mp J h).bind λ_ s1 E=>?_;have:=E.at_;refine (ih.ef s1 E.iv (by omega)).bind λx s2 D=>(dt J D.iv).bind λ_ V ⟨I,_⟩=>?_;exact Mq J h E (D.toFw.trans I.toFw) λO M T=>⟨M,by have:=D.lt;have:=I.lt;omega⟩
  ·intro s h U;unfold oB;have:=h.at_;refine (ek J h).bind λb s1 ⟨E,Y⟩=>Tr.iff (λH=>?_) λH=>?_
   ·have E:=(E H).1;have:=E.lt;have:=E.iv.at_;exact (ih.jk s1 E.iv (by omega)).mono λ_ s2 D=>E.trans D.toFw
   have:=Y (by simpa using H);subst this;refine (ek J h).bind λb s1 ⟨E,Y⟩=>Tr.iff (λH=>?_) λH=>?_
   ·have E:=(E H).1;have:=E.lt;have:=E.iv.at_;exact (ih.cases s1 E.iv (by omega)).mono λ_ s2 D=>E.trans D.toFw
   have:=Y (by simpa using H);subst this;refine (ek J h).bind λb s1 ⟨E,Y⟩=>Tr.iff (λH=>?_) λH=>?_
   ·have E:=(E H).1;have:=E.lt;have:=E.iv.at_;exact (ih.kJ s1 E.iv (by omega)).mono λ_ s2 D=>E.trans D.toFw
   have:=Y (by simpa using H);subst this;refine (ek J h).bind λb s1 ⟨E,Y⟩=>Tr.iff (λH=>?_) λH=>?_
   ·have E:=(E H).1;have:=E.lt;have:=E.iv.at_;refine (A0.expr s1 E.iv (by omega)).bind λv s2 D=>(dt J D.iv).bind λ_ V ⟨I,_⟩=>?_;have:=D.lt;have:=I.lt;have:=I.iv.at_;refine (ih.block _ V I.iv (by omega)).bind λl W M=>(dt J M.iv).bind λ_ y ⟨T,_⟩=>?_;exact E.trans (D.toFw.trans (I.toFw.trans (M.trans T.toFw)))
   have:=Y (by simpa using H);subst this;refine (ek J h).bind λb s1 ⟨E,Y⟩=>Tr.iff (λH=>?_) λH=>?_
   ·have E:=(E H).1;have:=E.lt;have:=E.iv.at_;refine (ih.block _ s1 E.iv (by omega)).bind λl s2 D=>(dt J D.iv).bind λ_ V ⟨I,_⟩=>?_;have:=D.at_;have:=I.lt;have:=I.iv.at_;refine (A0.expr V I.iv (by omega)).bind λv W M=>(dt J M.iv).bind λ_ y ⟨T,_⟩=>?_;exact E.trans (D.trans (I.toFw.trans (M.toFw.trans T.toFw)))
   have:=Y (by simpa using H);subst this;refine (ek J h).bind λb s1 ⟨E,Y⟩=>Tr.iff (λH=>(E H).1) λH=>?_;have:=Y (by simpa using H);subst this;refine (ek J h).bind λb s1 ⟨E,Y⟩=>Tr.iff (λH=>(E H).1) λH=>?_;have:=Y (by simpa using H);subst this;refine (jm J (by decide) h).bind λZ s2 ⟨D,_⟩=>?_;have:=D.lt;have:=D.iv.at_;refine (ek J D.iv).bind λb V ⟨I,AB⟩=>Tr.iff (λH=>?_) λH=>?_
   ·have I:=(I H).1;have:=I.lt;have:=I.iv.at_;exact (ih.call Z.text V I.iv (by omega)).mono λ_ W M=>D.trans (I.toFw.trans M.toFw)
   have:=AB (by simpa using H);subst this;refine (tU J D.iv).bind λb W ⟨e,_⟩=>?_;subst e;have A2:Tr (if b=true then (jJ L f W).bind λx s=>.ok (gK 4 Z.text [x] Z.line) s else .ok (qU Z) W) λ_ O=>Fw L W O:=
    Tr.iff (λH=>(A0.index W D.iv (by omega)).bind λx y T=>T.toFw) λH=>Fw.refl D.iv
   refine A2.bind λto y T=>(dt J T.iv).bind λ_ A3 ⟨A',_⟩=>?_;have:=T.at_;have:=A'.lt;have:=A'.iv.at_;exact (A0.expr A3 A'.iv (by omega)).bind λv A4 A1=>D.trans (T.trans (A'.toFw.trans A1.toFw))
  ·intro s h U;unfold gR;exact ih.dF [] [] s h (by simp) (by simp) (by omega)
  ·intro c l s h A9 A6 U;unfold dF;have:=h.at_;refine (A0.expr s h (by omega)).bind λx s1 E=>(dt J E.iv).bind λ_ s2 ⟨D,_⟩=>?_;have:=E.lt;have:=D.lt;have:=D.iv.at_;refine (ih.block _ s2 D.iv (by omega)).bind λb V I=>?_;have:=I.at_;have:=I.iv.at_;rw[aat (by omega)];refine (ek J I.iv).bind λm W ⟨M,A8⟩=>Tr.iff (λH=>?_) λH=>?_
   ·have M:=(M H).1;have:=M.lt;have:=M.iv.at_;exact (ih.dF _ _ W M.iv (by simp;omega) (by simp;omega) (by omega)).mono λ_ y T=>E.trans (D.toFw.trans (I.trans (M.toFw.trans T.toFw)))
   have:=A8 (by simpa using H);subst this;refine (ek J I.iv).bind λm y ⟨T,AC⟩=>?_;have A2:Tr (if m=true then (eN L f [[69,78,68,95,73,70]] y).bind λz s=>.ok (l++[b]++[z]) s else .ok (l++[b]) y) λ_ O=>Fw L W O:=by
    refine Tr.iff (λH=>?_) λH=>?_
    ·have T:=(T H).1;have:=T.lt;have:=T.iv.at_;exact (ih.block _ y T.iv (by omega)).bind λx A3 A'=>T.toFw.trans A'
    ·have:=AC (by simpa using H);subst this;exact Fw.refl I.iv
   refine A2.bind λAD A3 A'=>(dt J A'.iv).bind λ_ A4 ⟨A1,_⟩=>?_;exact E.trans (D.toFw.trans (I.trans (A'.trans A1.toFw)))
  ·intro s h U;unfold lR;have:=h.at_;refine (A0.expr s h (by omega)).bind λv s1 E=>(dt J E.iv).bind λ_ s2 ⟨D,_⟩=>?_;have:=E.lt;have:=D.lt;have:=D.iv.at_;exact (ih.gA v [] [] s2 D.iv (by simp) (by simp) (by omega)).mono λ_ V I=>E.trans (D.toFw.trans I.toFw)
  ·intro v c l s h A9 A6 U;unfold gA;have:=h.at_;refine (FR J h).bind λb s1 e=>?_;subst e;refine Tr.iff (λH=>?_) λH=>?_
   ·refine (Lk J f [] s1 h (by omega) (by simp)).bind λx s2 D=>?_;have:=D.lt;have:=D.iv.at_;refine (ih.ib [] s2 D.iv (by simp) (by omega)).bind λb V I=>?_;have:=I.at_;have:=I.iv.at_;rw[aat (by omega)];exact (ih.gA v _ _ V I.iv (by simp;omega) (by simp;omega) (by omega)).mono λ_ W M=>D.trans (I.trans M.toFw)
   refine (ek J h).bind λm s2 ⟨D,AE⟩=>?_;have A2:Tr (if m=true then (eN L f [[69,78,68,95,67,65,83,69]] s2).bind λz s=>if l.length<100000 then .ok (l++[z]) s else .out else .ok l s2) λ_ O=>Fw L s1 O:=by
    refine Tr.iff (λH=>?_) λH=>?_
    ·have D:=(D H).1;have:=D.lt;have:=D.iv.at_;exact (ih.block _ s2 D.iv (by omega)).bind λx V I=>by rw[aat (by omega)];exact D.toFw.trans I
    ·have:=AE (by simpa using H);subst this;exact Fw.refl h
   exact A2.bind λAD V I=>(dt J I.iv).bind λ_ W ⟨M,_⟩=>I.aof M
  ·intro l s h A6 U;unfold ib;have:=h.at_;refine (YW J h).bind λb s1 e=>?_;subst e;refine Tr.iff (λH=>.refl h) λH=>(ih.stmt s1 h (by omega)).bind λx s2 D=>?_;have:=D.lt;have:=D.iv.at_;rw[aat (by omega)];exact (ih.ib _ s2 D.iv (by simp;omega) (by omega)).mono λ_ V I=>D.toFw.trans I
  ·intro s h U;unfold iL;refine (jm J (by decide) h).bind λZ s1 ⟨E,_⟩=>(dt J E.iv).bind λ_ s2 ⟨D,_⟩=>?_;have:=h.at_;have:=E.lt;have:=D.lt;have:=D.iv.at_;refine (A0.expr s2 D.iv (by omega)).bind λa V I=>(dt J I.iv).bind λ_ W ⟨M,_⟩=>?_;have:=I.lt;have:=M.lt;have:=M.iv.at_;refine (A0.expr W M.iv (by omega)).bind λb y T=>(nS J T.iv).bind λt A3 ⟨e,_⟩=>?_;subst e;have:=T.lt;have:=T.iv.at_;refine (ek J T.iv).bind λm A4 ⟨A1,AF⟩=>?_;have A2:Tr (if m=true then gn L f A4 else .ok (.mk 1 1 [] [] [] t.line) A4) λ_ O=>Fw L A3 O:=by
    refine Tr.iff (λH=>?_) λH=>?_
    ·have A1:=(A1 H).1;have:=A1.lt;have:=A1.iv.at_;exact (A0.expr A4 A1.iv (by omega)).mono λ_ AG A5=>A1.toFw.trans A5.toFw
    ·have:=AF (by simpa using H);subst this;exact Fw.refl T.iv
   refine A2.bind λc AG A5=>(dt J A5.iv).bind λ_ AH ⟨A7,_⟩=>?_;have:=A5.at_;have:=A7.lt;have:=A7.iv.at_;refine (ih.block _ AH A7.iv (by omega)).bind λl AN AA=>(dt J AA.iv).bind λ_ AO ⟨AI,_⟩=>?_;exact E.trans (D.toFw.trans (I.toFw.trans (M.toFw.trans (T.toFw.trans (A5.trans (A7.toFw.trans (AA.trans AI.toFw)))))))
  ·intro Z s h U;unfold oC;refine (ek J h).bind λb s1 ⟨E,Y⟩=>Tr.iff (λH=>(E H).1) λH=>?_;have:=Y (by simpa using H);subst this;exact ih.iM Z [] [] s1 h (by simp) (by simp) (by omega)
  ·intro Z c l s h A9 A6 U;unfold iM;have:=h.at_;refine (jm J (by decide) h).bind λt s1 ⟨E,_⟩=>(dt J E.iv).bind λ_ s2 ⟨D,_⟩=>?_;have:=E.lt;have:=D.lt;have:=D.iv.at_;refine (A0.expr s2 D.iv (by omega)).bind λx V I=>?_;have:=I.lt;have:=I.iv.at_;rw[aat (by omega)];refine (ek J I.iv).bind λb W ⟨M,A8⟩=>Tr.iff (λH=>?_) λH=>?_
   ·have M:=(M H).1;have:=M.lt;have:=M.iv.at_;exact (ih.iM Z _ _ W M.iv (by simp;omega) (by simp;omega) (by omega)).mono λ_ y T=>E.trans (D.toFw.trans (I.toFw.trans (M.toFw.trans T.toFw)))
   ·have:=A8 (by simpa using H);subst this;exact (dt J I.iv).bind λ_ y ⟨T,_⟩=>E.trans (D.toFw.trans (I.toFw.trans T.toFw))
theorem II{kindN:Tx->Int}{f:Nat}{s:PS}(h:Iv L s)(U:20*(L.length-s.at_)+19<=f):Tr (kW L kindN f s) λp O=>p.vars.length<=64/\∃(i:Nat)(t:bI),L[i]?=some t/\xq t [69,78,68,95,80,82,79,71,82,65,77]=true:=by
 unfold kW;have:=h.at_;refine (dt J h).bind λ_ s1 ⟨E,_⟩=>(jm J (by decide) E.iv).bind λZ s2 ⟨D,_⟩=>?_;have:=E.lt;have:=D.lt;have:=D.iv.at_;refine (zB J f s2 D.iv (by omega)).bind λ_ V I=>?_;have:=I.at_;have:=I.iv.at_;refine ((aeA J f).block _ V I.iv (by omega)).bind λl W M=>(dt J M.iv).bind λ_ y ⟨T,t,AJ,AK⟩=>(EV J T.iv).bind λ_ A3 ⟨A',_⟩=>?_;exact⟨A'.iv.vs,_,t,AJ,AK⟩
end
end Go.Am
end
section
namespace Go.Am
open Go Go.Proofs Go.Proofs.Tryz
variable [Inhabited bV]
set_option maxRecDepth 20000
theorem Tr.EW{α:Type}{r:PM α}{Q:α->PS->Prop}(h:Tr r Q){a:α}{s:PS}(e:r=.ok a s):Q a s:=by subst e;exact h
section
variable {L:List bI} {s:PS} (M:L.length<1000000)
include M
theorem YX(I:OkL L)(A3:Iv L s)(f:Nat)(A5:20*(L.length-s.at_)+19<=f):Le ((kW L kindN f s).el (λp s=>some (.ret (.agg [.d (.str p.name),.vec 1 1 0 s.vars.length,.d (.list (p.body.map bX))]),oE L s)) (lS L)) (ag ctx 94 [.ptr 0 0 0] (pC L s)):=by
 rw[ary (by simp[pC])];unfold kW;have H:=jd (L:=L) (s:=s) M [80,82,79,71,82,65,77];cases Y:dH L [80,82,79,71,82,65,77] s with
 |out=>exact Le.none
 |bad e s1=>
  apply Le.of_eq;simp[Y,bA]at H;simp[f94,gS,lS,oE,H]
 |ok u s1=>
  simp[Y,b9]at H;have J:=po (L:=L) (s:=s1) M 1;have i1:=((dt I A3).EW Y).1;have:=i1.lt;have:=i1.iv.at_;simp only[ir];cases Z:gQ L 1 s1 with
  |out=>exact Le.none
  |bad e s2=>
   apply Le.of_eq;simp[Z,bA]at J;simp[f94,gS,lS,oE,H,J]
  |ok A6 s2=>
   simp[Z,b9]at J;have E:=QY (L:=L) M f s2;have i2:=((jm I (by decide) i1.iv).EW Z).1;have:=i2.lt;have:=i2.iv.at_;simp only[ir];cases y:kD L kindN f s2 with
   |out=>exact Le.none
   |bad e O=>
    apply Le.of_eq;simp only[y,Dt,lS,oE]at E;have E:=E _ rfl;simp[f94,gS,lS,oE,H,J,E]
   |ok u O=>
    simp only[y,EE,oE]at E;have E:=E _ rfl;have i3:=(zB I f s2 i2.iv (by omega)).EW y;have:=i3.at_;have D:=abU (L:=L) M f (.block [[69,78,68,95,80,82,79,71,82,65,77]] O);simp only[ir];simp only[TA.uF,TA.vz,TA.args,TA.st,gS,aod,b9,bA]at D;rw[aat (by decide)]at D;cases A':eN L f [[69,78,68,95,80,82,79,71,82,65,77]] O with
    |out=>exact Le.none
    |bad e A0=>
     apply Le.of_eq;simp only[A',Dt]at D;have D:=D _ rfl;simp at D;simp[f94,gS,lS,oE,H,J,E,D]
    |ok l A0=>
     simp only[A',EE]at D;have D:=D _ rfl;simp at D;have i4:=((aeA I f).block _ O i3.iv (by omega)).EW A';have T:=jd (L:=L) (s:=A0) M [69,78,68,95,80,82,79,71,82,65,77];simp only[ir];apply Le.of_eq;cases U:dH L [69,78,68,95,80,82,79,71,82,65,77] A0 with
     |out=>have:=dt (w:=[69,78,68,95,80,82,79,71,82,65,77]) I i4.iv;rw[U]at this;exact this.elim
     |bad e A1=>
      simp[U,bA]at T;simp[f94,gS,lS,b9,oE,H,J,E,D,T]
     |ok u A1=>
      have i5:=((dt I i4.iv).EW U).1;simp[U,b9]at T;have V:=po (L:=L) (s:=A1) M 0;simp only[ir];cases W:gQ L 0 A1 with
      |out=>have:=EV (k:=0) I i5.iv;rw[W]at this;exact this.elim
      |bad e A2=>
       simp[W,bA]at V;simp[f94,gS,lS,b9,oE,H,J,E,D,T,V]
      |ok u A2=>
       have i6:=((EV I i5.iv).EW W).1;have A4:A2.vars=O.vars:=by rw[i6.vars,i5.vars,i4.vars]
       simp[W,b9]at V;simp[f94,gS,b9,oE,H,J,E,D,T,V,A4]
end
end Go.Am
end
section
namespace Go.Am
open Go
abbrev aoi:=Option (Out×List (Nat×aD))
theorem aoj(c:Prop)[Decidable c](a b:Bool)(l:List (Nat×aD)):(if c then (some (Out.ret (.d (.bool a)),l):aoi)else some (Out.ret (.d (.bool b)),l))=some (Out.ret (.d (.bool (if c then a else b))),l):=by split<;>rfl
theorem aeB(a b:Bool)(l:List (Nat×aD)):(some (Out.ret (.d (.bool a)),l):aoi)=some (Out.ret (.d (.bool b)),l)↔(a=true↔b=true):=by
 cases a<;>cases b<;>simp
end Go.Am
end
section
namespace Go.Am
open Go Go.Proofs Go.Proofs.Tryz
variable [Inhabited bV]
set_option maxRecDepth 20000
theorem aeC{n:Int}(D:0<=n)(E:n<=255):IntKind.u8.wrap n=n:=by
 simp[IntKind.wrap,IntKind.bits,IntKind.signed];omega
theorem IJ(c:UInt8):ag ctx 210 [.d (.int .u8 c.toNat)] []=some (.ret (.d (.bool (n8 c))),[]):=by
 rw[amV (by simp)];simp[f210,aq];grind [n8]
theorem DM(c:UInt8):ag ctx 214 [.d (.int .u8 c.toNat)] []=some (.ret (.d (.bool (nO c))),[]):=by
 rw[amY (by simp)];simp[f214,aq];grind [nO]
theorem Lm(c:UInt8):ag ctx 212 [.d (.int .u8 c.toNat)] []=some (.ret (.d (.bool (dP c))),[]):=by
 rw[amW (by simp)];simp[f212,aq,IJ,DM];simp only[aoj,aeB];grind [dP]
theorem Ln(c:UInt8):ag ctx 258 [.d (.int .u8 c.toNat)] []=some (.ret (.d (.int .i64 (gj c))),[]):=by
 rw[ann (by simp)];simp[f258,aq,DM];have H:c.toNat<256:=c.toNat_lt;have w:∀y:Int, -9223372036854775808<=y->y<=9223372036854775807->IntKind.i64.wrap y=y:=λy D E=>aB ⟨D,E⟩;have I:∀y:Int,0<=y->y<=255->IntKind.u8.wrap y=y:=λy D E=>aeC D E;grind [gj,nO]
theorem tu{s:Tx}{i:Nat}(h:i<s.length):lG s i=s[i]:=by simp[lG,h]
theorem ahJ(c:UInt8)(n:Nat)(A3:n<256):((c.toNat:Int)=n)↔c=UInt8.ofNat n:=by
 constructor
 ·intro h;have h:c.toNat=n:=by omega
  rw[<-h];simp
 ·rintro rfl;simp;omega
@[simp] def xz(s:Tx)(i:Nat):aD:=.box [.d (.str s),.d (.int .i64 i),.d (.int .i64 (ly (s.take i)).1),.d (.int .i64 (ly (s.take i)).2)]
theorem OL(s:Tx)(i:Nat)(h:i<=s.length):ag ctx 151 [.ptr 0 0 0] [xz s i]=some (.ret (.d (.str (s.drop i))),[(0,xz s i)]):=by
 rw[amp (by simp)];simp[f151,aq,h]
theorem Lp(s:Tx)(i n:Nat)(h:i+n<=s.length)(I:s.length<=100000)(k:Kt):∀(r j:Nat),j+r=n->
 aZ ctx 153 (.loop (Code.at (bg f153) [1,0,0])) ⟨42,aX,[(0,true,.ptr 0 0 0),(4,true,.d (.int .i64 n)),(5,true,.d (.int .i64 j))],[⟨0,0,xz s (i+j)⟩]⟩ k=
  k (.exit 0) ⟨42,aX,[(0,true,.ptr 0 0 0),(4,true,.d (.int .i64 n)),(5,true,.d (.int .i64 n)),(6,true,.d (.bool false))],[⟨0,0,xz s (i+n)⟩]⟩
 |0,j,J=>by
  have J:j=n:=by omega
  subst J;rw[ai];simp[f153]
 |r+1,j,J=>by
  have ih:=Lp s i n h I k r (j+1) (by omega);have E:i+j<s.length:=by omega
  have A0:=Dv (s:=s) (i:=i+j);have D:=abG E;rw[show i+(j+1)=i+j+1 by omega]at ih;generalize A1:ly (s.take (i+j))=p at*;generalize A2:ly (s.take (i+j+1))=q at*;obtain⟨l,c⟩:=p;obtain⟨A4,A5⟩:=q;simp only at A0;have M:IntKind.i64.wrap (c+1)=c+1:=aB (by unfold bq;omega);have O:IntKind.i64.wrap (l+1)=l+1:=aB (by unfold bq;omega);have T:IntKind.i64.wrap ((i:Int)+j+1)=(i:Int)+j+1:=aB (by unfold bq;omega);have U:IntKind.i64.wrap ((j:Int)+1)=(j:Int)+1:=aB (by unfold bq;omega);have V:j<n:=by omega
  rw[ai];simp[f153,A1,A2]at ih⊢;have W:(0:Int)<=(i:Int)+j:=by omega
  have Y:((i:Int)+j).toNat=i+j:=by omega
  have Z:=tu E;have y:=ahJ s[i+j] 10 (by omega);simp at y;unfold nP at D;by_cases H:s[i+j]=10
  ·rw[aat H]at D;cases D;simp[V,M,O,T,U,E,aq,W,Y,Z,H,ih]
  ·rw[aab H]at D;cases D;simp[V,M,O,T,U,E,aq,W,Y,Z,y,H,ih]
theorem Bu(s:Tx)(i n:Nat)(h:i+n<=s.length)(I:s.length<=100000):ag ctx 153 [.ptr 0 0 0,.d (.int .i64 n)] [xz s i]=some (.ret (.aY []),[(0,xz s (i+n))]):=by
 have A':=λk=>Lp s i n h I k n 0 (by omega);rw[amr (by simp)];simp[f153]at A'⊢;simp[A']
theorem B8(t:Tx)(c:UInt8):ag ctx 208 [.d (.str t),.d (.int .u8 c.toNat)] []=some (.ret (.d (.int .i64 (Go.Lib.indexByte t c))),[]):=by
 rw[amU (by simp)];simp[f208,aq]
set_option maxHeartbeats 1000000 in
theorem Bv(s:Tx)(M:s.length<=100000)(k:Kt)(R:bN):∀(f i:Nat),i<=s.length->s.length-i<f->
 (k .ret ⟨51,aX,[(2,true,.d (.bool (fX f (s.drop i)).2))],[⟨0,0,xz s (i+(fX f (s.drop i)).1)⟩]⟩=R)->
 aZ ctx 150 (.loop (Code.at (bg f150) [1,0,0])) ⟨51,aX,[(0,true,.ptr 0 0 0)],[⟨0,0,xz s i⟩]⟩ k=R
 |0,i,hi,A3,D=>by omega
 |f+1,i,hi,A3,D=>by
  have E:=OL s i hi;cases U:s.drop i with
  |nil=>
   rw[U]at E D;simp[fX]at E D;rw[ai];simp[f150,E,D,aq]
  |cons c r=>
   have AB:i+(r.length+1)=s.length:=by have:=ahS List.length U;simp at this;omega
   have O:=B8 (c::r) 10;rw[Ah]at O;rw[U]at E D;unfold fX at D;have V:lG (c::r) 0=c:=rfl;have A4:=Ot (c::r);by_cases H:Ag c=true
   ·rw[aat H]at D;have I:=Bu s i 1 (by omega) M;have Z:s.drop (i+1)=r:=by rw[<-List.tail_drop,U];rfl
    have ih:=Bv s M k R f (i+1) (by omega) (by omega) (by rw[Z,show i+1+(fX f r).1=i+(1+(fX f r).1) by omega];exact D);simp[Ag]at H;rw[ai];simp[f150]at E I ih⊢;rcases H with (H|H)|H<;>simp[E,V,H,I,ih,aq]
   rw[aab H]at D;have y:¬(c.toNat:Int)=32:=λh=>H (by simp[Ag];omega);have A':¬(c.toNat:Int)=10:=λh=>H (by simp[Ag];omega);have A0:¬(c.toNat:Int)=9:=λh=>H (by simp[Ag];omega);have J:=Ix 47 47 c r;have T:=Ix 40 42 c r;by_cases A1:c=47/\r.head?=some 47
   ·rw[aat A1]at D;have J:Go.Lib.hasPrefix (c::r) [47,47]=true:=by rw[J];simp[A1]
    have I:=Bu s i (ka (c::r)) (by simp at A4;omega) M;have Z:s.drop (i+ka (c::r))=(c::r).drop (ka (c::r)):=by rw[<-aoI,U]
    have AC:0<ka (c::r):=by simp[ka,A1.1]
    have ih:=Bv s M k R f (i+ka (c::r)) (by simp at A4;omega) (by omega) (by rw[Z,abY];exact D);generalize ka (c::r)=n at*;rw[ai];by_cases W:n<(c::r).length
    ·rw[aat W]at O;have A5:¬((n:Int)<0):=by omega
     simp[f150]at E I ih O⊢;simp[E,V,y,A',A0,J,O,A5,I,ih,aq]
    ·rw[aab W]at O;have A9:n=r.length+1:=by simp at W A4;omega
     subst A9;simp[f150]at E I ih O⊢;simp[E,V,y,A',A0,J,O,I,ih,aq]
   rw[aab A1]at D;have J:Go.Lib.hasPrefix (c::r) [47,47]=false:=by rw[J];simpa using A1
   by_cases A2:c=40/\r.head?=some 42
   ·rw[aat A2]at D;have T:Go.Lib.hasPrefix (c::r) [40,42]=true:=by rw[T];simp[A2]
    have Y:=Ld r.tail;have A7:(2:Int)<=(r.length:Int)+1:=by cases r with|nil=>simp at A2|cons d r=>simp;omega
    have A8:r.length-1<4294967281:=by omega
    cases A6:pT r.tail with
    |none=>
     rw[A6]at D Y;simp at D Y E;rw[ai];simp[f150];simp[E,V,y,A',A0,J,T,A7,A8,Y,D,aq]
    |some m=>
     rw[A6]at D Y;have hm:=Bn A6;have AD:r.tail.length=r.length-1:=by simp
     have I:=Bu s i (m+4) (by omega) M;have Z:s.drop (i+(m+4))=(c::r).drop (m+4):=by rw[<-aoI,U]
     have ih:=Bv s M k R f (i+(m+4)) (by omega) (by omega) (by rw[Z,abY];exact D);have A5:¬((m:Int)<0):=by omega
     have AA:IntKind.i64.wrap ((m:Int)+4)=m+4:=aB (by unfold bq;omega);rw[ai];simp[f150]at E I ih Y⊢;simp[E,V,y,A',A0,J,T,A7,A8,Y,A5,AA,I,ih,aq]
   rw[aab A2]at D;have T:Go.Lib.hasPrefix (c::r) [40,42]=false:=by rw[T];simpa using A2
   simp at D E;rw[ai];simp[f150];simp[E,V,y,A',A0,J,T,D,aq]
theorem aiS(s:Tx)(i:Nat)(hi:i<=s.length)(M:s.length<=100000)(f:Nat)(A3:s.length-i<f):
 ag ctx 150 [.ptr 0 0 0] [xz s i]=some (.ret (.d (.bool (fX f (s.drop i)).2)),[(0,xz s (i+(fX f (s.drop i)).1))]):=by
 have W:=λk R=>Bv s M k R f i hi A3;rw[amo (by simp)];simp[f150]at W⊢;rw[W];simp
theorem Q0(c:UInt8)(b:Int):ag ctx 257 [.d (.int .u8 c.toNat),.ptr 0 0 0] [.box [.d (.int .i64 b)]]=some (.ret (.d (.bool (decide ((gj c:Int)<b)))),[(0,.box [.d (.int .i64 b)])]):=by
 rw[anm (by simp)];simp[f257,aq,Ln]
theorem FU(s:Tx)(H:s.length<=100000)(k:Kt):∀(r n:Nat),n+r=s.length->
 aZ ctx 211 (.loop (Code.at (bg f211) [1,1,0,0,0])) ⟨20,aX,[(0,true,.d (.str s)),(1,true,.fn 212 []),(5,true,.d (.int .i64 n))],[]⟩ k=
  k (.exit 0) ⟨20,aX,[(0,true,.d (.str s)),(1,true,.fn 212 []),(5,true,.d (.int .i64 (n+((s.drop n).takeWhile dP).length:Nat))),(16,true,.d (.bool false))],[]⟩
 |0,n,I=>by
  have I:n=s.length:=by omega
  subst I;rw[ai];simp[f211]
 |r+1,n,I=>by
  have E:n<s.length:=by omega
  have ih:=FU s H k r (n+1) (by omega);have T:IntKind.i64.wrap ((n:Int)+1)=(n:Int)+1:=aB (by unfold bq;omega);have J:=tu E;have D:=Lm s[n];have U:s.drop n=s[n]::s.drop (n+1):=List.drop_eq_getElem_cons E;rw[U,List.takeWhile_cons];rw[ai];cases M:dP s[n]with
  |true=>
   rw[M]at D;have e:n+1+(List.takeWhile dP (s.drop (n+1))).length=n+((List.takeWhile dP (s.drop (n+1))).length+1):=by omega
   rw[e]at ih;simp[f211]at ih D⊢;simp[E,J,D,T,ih]
  |false=>
   rw[M]at D;simp[f211]at D⊢;simp[E,J,D]
theorem YY(s:Tx)(H:s.length<=100000):ag ctx 211 [.d (.str s),.fn 212 []] []=some (.ret (.d (.int .i64 (s.takeWhile dP).length)),[]):=by
 have O:=λk=>FU s H k s.length 0 (by omega);rw[abB (by simp)];simp[f211]at O⊢;simp[O]
theorem FV(s:Tx)(H:s.length<=100000)(b:Nat)(k:Kt):∀(r n:Nat),n+r=s.length->
 aZ ctx 211 (.loop (Code.at (bg f211) [1,1,0,0,0])) ⟨20,aX,[(0,true,.d (.str s)),(1,true,.fn 257 [.ptr 0 0 0]),(5,true,.d (.int .i64 n))],[⟨0,0,.box [.d (.int .i64 b)]⟩]⟩ k=
  k (.exit 0) ⟨20,aX,[(0,true,.d (.str s)),(1,true,.fn 257 [.ptr 0 0 0]),(5,true,.d (.int .i64 (n+((s.drop n).takeWhile (λc=>decide (gj c<b))).length:Nat))),(16,true,.d (.bool false))],[⟨0,0,.box [.d (.int .i64 b)]⟩]⟩
 |0,n,I=>by
  have I:n=s.length:=by omega
  subst I;rw[ai];simp[f211]
 |r+1,n,I=>by
  have E:n<s.length:=by omega
  have ih:=FV s H b k r (n+1) (by omega);have T:IntKind.i64.wrap ((n:Int)+1)=(n:Int)+1:=aB (by unfold bq;omega);have J:=tu E;have D:=Q0 s[n] b;have U:s.drop n=s[n]::s.drop (n+1):=List.drop_eq_getElem_cons E;rw[U,List.takeWhile_cons];rw[ai];by_cases M:gj s[n]<b
  ·have e:n+1+(List.takeWhile (λc=>decide (gj c<b)) (s.drop (n+1))).length=n+((List.takeWhile (λc=>decide (gj c<b)) (s.drop (n+1))).length+1):=by omega
   rw[e]at ih;simp[f211,M]at ih D⊢;simp[E,J,D,T,ih]
  ·simp[f211,M]at D⊢;simp[E,J,D]
theorem YZ(s:Tx)(H:s.length<=100000)(b:Nat):ag ctx 211 [.d (.str s),.fn 257 [.ptr 0 0 0]] [.box [.d (.int .i64 b)]]=
 some (.ret (.d (.int .i64 (s.takeWhile (λc=>decide (gj c<b))).length)),[(0,.box [.d (.int .i64 b)])]):=by
 have O:=λk=>FV s H b k s.length 0 (by omega);rw[abB (by simp)];simp[f211]at O⊢;simp[O]
theorem aiT(c:UInt8):gj c<=99:=by
 unfold gj nO;split
 ·rename_i h;simp at h;omega
 ·split<;>omega
set_option maxHeartbeats 1000000 in
theorem OM(s:Tx)(A9:s.length<=100000)(b:Nat)(AA:2<=b/\b<=16)(n v:Nat)(E:aD)(U:n<=s.length)(k:Kt)(R:bN):∀(rest:Tx)(i x:Nat),(s.drop i).take rest.length=rest->i+rest.length=n->x<=9223372036854775807->
 (match Bp b x rest with
  |none=>k .ret ⟨83,aX,[(2,true,.d (.int .i64 0)),(3,true,.d (.int .i64 0)),(4,true,.d (.int .i64 2))],[⟨350,1,.box [.d (.int .i64 b)]⟩,⟨500,v,E⟩]⟩
  |some y=>k (.exit 2) ⟨83,aX,[(0,true,.d (.str s)),(5,true,.ptr 350 1 0),(9,true,.d (.int .i64 n)),(10,true,.d (.int .i64 y)),(11,true,.d (.int .i64 n)),(63,true,.d (.bool false))],[⟨350,1,.box [.d (.int .i64 b)]⟩,⟨500,v,E⟩]⟩)=R->
 aZ ctx 215 (.loop (Code.at (bg f215) [1,1,1,1,1,1,0,1,0,0])) ⟨83,aX,[(0,true,.d (.str s)),(5,true,.ptr 350 1 0),(9,true,.d (.int .i64 n)),(10,true,.d (.int .i64 x)),(11,true,.d (.int .i64 i))],[⟨350,1,.box [.d (.int .i64 b)]⟩,⟨500,v,E⟩]⟩ k=R
 |[],i,x,A1,hi,AP,J=>by
  have hi:i=n:=by simpa using hi
  subst hi;simp[Bp]at J;rw[ai];simp[f215,J]
 |c::rest,i,x,A1,hi,AP,J=>by
  simp only[aan]at hi A1;have D:i<s.length:=by omega
  have V:i<n:=by omega
  have AQ:s.drop i=s[i]::s.drop (i+1):=List.drop_eq_getElem_cons D;rw[AQ,List.take_succ_cons]at A1;have M:s[i]=c:=(List.cons.inj A1).1;have AR:=(List.cons.inj A1).2;have AG:=tu D;have Z:=Ln c;have Ai:=aiT c;have AS:IntKind.i64.wrap ((i:Int)+1)=(i:Int)+1:=aB (by unfold bq;omega);have AH:IntKind.i64.wrap (9223372036854775807-(gj c:Int))=((9223372036854775807-gj c:Nat):Int):=by rw[aB (by unfold bq;omega)];omega
  have AT:(9223372036854775807-gj c)/b<=9223372036854775807:=akm (Nat.div_le_self _ _) (Nat.sub_le _ _);have AI:IntKind.i64.wrap (((9223372036854775807-gj c:Nat):Int)/(b:Int))=(((9223372036854775807-gj c)/b:Nat):Int):=by
   rw[<-Int.natCast_ediv];generalize (9223372036854775807-gj c)/b=z at AT;exact aB (by unfold bq;omega)
  have AJ:b≠0:=by omega
  unfold Bp at J;rw[ai];by_cases A4:(9223372036854775807-gj c)/b<x
  ·have AB:((9223372036854775807-gj c:Nat):Int)/(b:Int)<x:=by rw[<-Int.natCast_ediv];exact Int.ofNat_lt.2 A4
   rw[aat A4]at J;simp at J Z;simp[f215];simp[V,D,AG,M,Z,AH,AI,AJ,AB,J]
  ·have AB:¬(((9223372036854775807-gj c:Nat):Int)/(b:Int)<x):=by rw[<-Int.natCast_ediv];exact λh=>A4 (Int.ofNat_lt.1 h)
   rw[aab A4]at J;have hm:x*b<=9223372036854775807-gj c:=by
    have AC:x<=(9223372036854775807-gj c)/b:=by omega
    have:=abS b AC;have AD:=Nat.div_mul_le_self (9223372036854775807-gj c) b;omega
   have AU:(x:Int)*(b:Int)=((x*b:Nat):Int):=by simp
   have AV:IntKind.i64.wrap ((x:Int)*b)=((x*b:Nat):Int):=by rw[AU];exact aB (by unfold bq;omega)
   have AW:IntKind.i64.wrap (((x*b:Nat):Int)+gj c)=((x*b+gj c:Nat):Int):=by rw[aB (by unfold bq;omega)];simp
   have ih:=OM s A9 b AA n v E U k R rest (i+1) (x*b+gj c) AR (by omega) (by omega) J;generalize Aj:x*b+gj c=Ak at*;generalize x*b=Al at*;simp[f215]at ih⊢;simp[V,D,AG,M,Z,AS,AH,AI,AV,AW,AJ,AB,ih]
theorem ml{a:UInt8}{p s:Tx}(h:(a::p).isPrefixOf s=true):s.head?=some a/\p.length+1<=s.length:=by
 have W:=List.isPrefixOf_iff_prefix.1 h;refine⟨?_,by simpa using W.length_le⟩;obtain⟨t,rfl⟩:=W;rfl
theorem Bw(s:Tx):(Go.Lib.hasPrefix s [50,35]=true/\Go.Lib.hasPrefix s [56,35]=false/\Go.Lib.hasPrefix s [49,54,35]=false/\oA s=(2,2)/\2<=s.length)\/
 (Go.Lib.hasPrefix s [50,35]=false/\Go.Lib.hasPrefix s [56,35]=true/\Go.Lib.hasPrefix s [49,54,35]=false/\oA s=(8,2)/\2<=s.length)\/
 (Go.Lib.hasPrefix s [50,35]=false/\Go.Lib.hasPrefix s [56,35]=false/\Go.Lib.hasPrefix s [49,54,35]=true/\oA s=(16,3)/\3<=s.length)\/
 (Go.Lib.hasPrefix s [50,35]=false/\Go.Lib.hasPrefix s [56,35]=false/\Go.Lib.hasPrefix s [49,54,35]=false/\oA s=(10,0)/\0<=s.length):=by
 unfold Go.Lib.hasPrefix oA;have An:([50,35]:Tx).isPrefixOf s=true->([56,35]:Tx).isPrefixOf s=true->False:=λh g=>by
  have h:=(ml h).1;have g:=(ml g).1;rw[h]at g;revert g;decide
 have Ao:([50,35]:Tx).isPrefixOf s=true->([49,54,35]:Tx).isPrefixOf s=true->False:=λh g=>by
  have h:=(ml h).1;have g:=(ml g).1;rw[h]at g;revert g;decide
 have Ap:([56,35]:Tx).isPrefixOf s=true->([49,54,35]:Tx).isPrefixOf s=true->False:=λh g=>by
  have h:=(ml h).1;have g:=(ml g).1;rw[h]at g;revert g;decide
 have Aq:([50,35]:Tx).isPrefixOf s=true->2<=s.length:=λh=>(ml h).2;have Ar:([56,35]:Tx).isPrefixOf s=true->2<=s.length:=λh=>(ml h).2;have As:([49,54,35]:Tx).isPrefixOf s=true->3<=s.length:=λh=>(ml h).2;cases AD:([50,35]:Tx).isPrefixOf s<;>cases At:([56,35]:Tx).isPrefixOf s<;>cases Au:([49,54,35]:Tx).isPrefixOf s<;>simp_all
set_option maxHeartbeats 2000000 in
theorem Y0(s:Tx)(A9:s.length<=100000):ag ctx 215 [.d (.str s)] []=some (.ret (.aY [.d (.int .i64 (mV s).1),.d (.int .i64 (mV s).2.1),.d (.int .i64 (mV s).2.2)]),[]):=by
 obtain⟨b,h,AK,AA,Av⟩:∃b h,oA s=(b,h)/\(2<=b/\b<=16)/\h<=s.length:=by
  rcases Bw s with ⟨_,_,_,e,O⟩|⟨_,_,_,e,O⟩|⟨_,_,_,e,O⟩|⟨_,_,_,e,O⟩<;>exact⟨_,_,e,by omega,by omega⟩
 have hw:=YZ (s.drop h) (by simp;omega) b;obtain⟨H,A5⟩:∃H,H=(s.drop h).takeWhile (λc=>decide (gj c<b)):=⟨_,rfl⟩;rw[<-A5]at hw;have Aw:H.length<=s.length-h:=by
  have:=(akS (λc=>decide (gj c<b)) (l:=s.drop h)).length_le;rw[<-A5]at this;simpa using this
 have AX:(s.drop h).take H.length=H:=by
  rw[A5];exact List.prefix_iff_eq_take.1 (akS _) |>.symm
 obtain⟨n,U⟩:∃n,n=h+H.length:=⟨_,rfl⟩;have AY:n<=s.length:=by omega
 have AL:=λv E k R=>OM s A9 b AA n v E AY k R H h 0 AX U.symm (by omega);have wn:IntKind.i64.wrap ((h:Int)+H.length)=(n:Int):=by rw[aB (by unfold bq;omega)];omega
 have Ax:¬((n:Int)<0):=by omega
 have Ay:(0:Int)<=n:=by omega
 obtain⟨F,I⟩:∃F:Nat×Nat×Nat,F=Dw s b h H:=⟨_,rfl⟩;have AZ:mV s=F:=by unfold mV;rw[I,AK];simp only[<-A5]
 rw[AZ];have A_:IntKind.i64.wrap 1=1:=aB (by unfold bq;omega);have Aa:IntKind.i64.wrap 2=2:=aB (by unfold bq;omega);have Ab:IntKind.i64.wrap 3=3:=aB (by unfold bq;omega);have Ac:List.range' 0 3=[0,1,2]:=rfl;have key:∀(v:Nat)(E:aD)(k:Kt),n≠h->(n<s.length->dP (lG s n)=false/\lG s n≠35)->
  (∀x,k (.exit 2) ⟨83,aX,[(0,true,.d (.str s)),(5,true,.ptr 350 1 0),(9,true,.d (.int .i64 n)),(10,true,.d (.int .i64 x)),(11,true,.d (.int .i64 n)),(63,true,.d (.bool false))],[⟨350,1,.box [.d (.int .i64 b)]⟩,⟨500,v,E⟩]⟩=some (.ret (.aY [.d (.int .i64 n),.d (.int .i64 x),.d (.int .i64 0)]),[]))->
  (k .ret ⟨83,aX,[(2,true,.d (.int .i64 0)),(3,true,.d (.int .i64 0)),(4,true,.d (.int .i64 2))],[⟨350,1,.box [.d (.int .i64 b)]⟩,⟨500,v,E⟩]⟩=some (.ret (.aY [.d (.int .i64 0),.d (.int .i64 0),.d (.int .i64 2)]),[]))->
  aZ ctx 215 (.loop (Code.at (bg f215) [1,1,1,1,1,1,0,1,0,0])) ⟨83,aX,[(0,true,.d (.str s)),(5,true,.ptr 350 1 0),(9,true,.d (.int .i64 n)),(10,true,.d (.int .i64 (0:Nat))),(11,true,.d (.int .i64 h))],[⟨350,1,.box [.d (.int .i64 b)]⟩,⟨500,v,E⟩]⟩ k=
   some (.ret (.aY [.d (.int .i64 F.1),.d (.int .i64 F.2.1),.d (.int .i64 F.2.2)]),[]):=by
  intro v E k AC AD Ad Ae;have Af:¬(H=[]\/∃c,s[h+H.length]?=some c/\(dP c=true\/c=35)):=by
   rintro (M|⟨c,M,T⟩)
   ·exact AC (by rw[U,M];rfl)
   ·rw[<-U]at M;obtain⟨D,Ag⟩:=D1.1 M;have AE:=AD D;rw[tu D,Ag]at AE;rcases T with T|T
    ·rw[AE.1]at T;cases T
    ·exact AE.2 T
  unfold Dw at I;rw[aab Af,<-U]at I;refine AL v E k _ ?_;cases Z:Bp b 0 H with
  |none=>rw[Z]at I;rw[I];exact Ae
  |some x=>rw[Z]at I;rw[I];exact Ad x
 have err:∀c,n<s.length->lG s n=c->(dP c=true\/c=35)->F=(0,0,5):=by
  intro c D M T;unfold Dw at I;rw[I,aat (.inr ⟨c,by rw[<-U,abJ D,<-tu D,M],T⟩)]
 have AM:n=h->F=(0,0,5):=by
  intro he;unfold Dw at I;rw[I,aat (.inl (List.length_eq_zero_iff.1 (by omega)))]
 have Y:=Lm (lG s n);have AN:=ahJ (lG s n) 35 (by omega);simp at AN;clear I AL;rw[amZ (by simp)];rcases Bw s with ⟨A6,A7,A8,e,O⟩|⟨A6,A7,A8,e,O⟩|⟨A6,A7,A8,e,O⟩|⟨A6,A7,A8,e,O⟩;all_goals
  obtain⟨W,AF⟩:∃W:Nat,W=h:=⟨_,rfl⟩;rw[AK]at e;cases e;have AO:=Int.ofNat_le.2 O;simp[f215]at hw wn AO key AM;simp[f215,Ac];iterate 4 (rw[ai];simp[A6,A7,A8,A_,Aa,Ab,aq])
  simp[O,AO,hw,wn];by_cases A':n=W
  ·have A2:=AM (A'.trans AF);rw[AF]at A';simp[A',A2]
  ·have A0:¬((n:Int)=(W:Int)):=by omega
   rw[AF]at A0 A';simp at A0;by_cases D:n<s.length
   ·cases V:dP (lG s n)
    ·rw[V]at Y;by_cases A3:lG s n=35
     ·have A2:=err _ D A3 (.inr rfl);rw[A3]at Y;simp at Y;simp[A0,D,Y,A3,A2]
     ·have Ah:¬((lG s n).toNat:Int)=35:=λh=>A3 (AN.1 h);simp[A0,D,Y,Ah];exact key _ _ _ A' (λ_=>⟨V,A3⟩) (λx=>by simp) (by simp)
    ·have A2:=err _ D rfl (.inl V);rw[V]at Y;simp[A0,D,Y,A2]
   ·simp[A0,D];exact key _ _ _ A' (λh=>absurd h D) (λx=>by simp) (by simp)
def u6(s:Tx):Nat->List Tx->Int
 |_,[]=> -1
 |i,x::r=>if s=x then (i:Int)else u6 s (i+1) r
theorem OO(s:Tx):∀(l:List Tx)(i:Nat),decide (0<=u6 s i l)=decide (s∈l)
 |[],i=>by simp[u6]
 |x::r,i=>by
  have:=OO s r (i+1);unfold u6;by_cases h:s=x
  ·simp[h]
  ·simp only[aab h,this];simp[h]
theorem FX(l:List Tx)(H:l.length<=1000)(s:Tx)(k:Kt)(R:bN):∀(rest:List Tx)(i:Nat),l.drop i=rest->i+rest.length=l.length->
 ((if 0<=u6 s i rest then k .ret ⟨19,aX,[(4,true,.d (.int .i64 (u6 s i rest)))],[]⟩else k (.exit 0) ⟨19,aX,[(0,true,.d (.list (l.map .str))),(1,true,.d (.str s)),(7,true,.d (.int .i64 l.length)),(8,true,.d (.int .i64 l.length)),(9,true,.d (.bool false))],[]⟩)=R)->
 aZ ctx 287 (.loop (Code.at (bg f287) [1,0,1,0,0])) ⟨19,aX,[(0,true,.d (.list (l.map .str))),(1,true,.d (.str s)),(7,true,.d (.int .i64 l.length)),(8,true,.d (.int .i64 i))],[]⟩ k=R
 |[],i,I,hi,h=>by
  have hi:i=l.length:=by simpa using hi
  subst hi;rw[ai];simp[u6]at h;simp[f287,h]
 |x::rest,i,I,hi,h=>by
  have J:i<l.length:=by simp at hi;omega
  have O:l[i]=x:=by
   have:=ahS (·[0]?) I;simp at this;simpa [J]using this
  have Y:IntKind.i64.wrap ((i:Int)+1)=(i:Int)+1:=aB (by unfold bq;omega);unfold u6 at h;rw[ai];by_cases E:s=x
  ·simp[E]at h;simp[f287];simp[J,O,E,h]
  ·rw[aab E]at h;have ih:=FX l H s k R rest (i+1) (by rw[<-List.tail_drop,I];rfl) (by simp at hi;omega) h;simp[f287]at ih⊢;simp[J,O,E,Y,ih]
theorem OP(s:Tx):∀(l:List Tx)(i:Nat),¬0<=u6 s i l->u6 s i l= -1
 |[],i,_=>rfl
 |x::r,i,h=>by
  unfold u6 at h⊢;split
  ·rename_i E;rw[aat E]at h;omega
  ·rename_i E;rw[aab E]at h;exact OP s r (i+1) h
theorem Y1(l:List Tx)(H:l.length<=1000)(s:Tx):ag ctx 287 [.d (.list (l.map .str)),.d (.str s)] []=some (.ret (.d (.int .i64 (u6 s 0 l))),[]):=by
 have T:=λk R h=>FX l H s k R l 0 rfl (by simp) h;rw[Oq (by simp)];simp[f287]at T⊢;rw[T];split
 ·simp
 ·rename_i h;simp[OP s l 0 h]
theorem OQ(l:List Tx)(H:l.length<=1000)(s:Tx):ag ctx 256 [.d (.list (l.map .str)),.d (.str s)] []=some (.ret (.d (.bool (decide (s∈l)))),[]):=by
 have h:=Y1 l H s;rw[abF (by simp)];simp[f256,h,<-OO s l 0]
theorem Y2:ag ctx 140 [.d (.str abH)] []=some (.ret (.d (.list (Iy.map .str))),[]):=dc 300 (by kernel_rfl)
theorem aeD(s:Tx):ag ctx 213 [.d (.str s)] []=some (.ret (.d (.bool (Bq s))),[]):=by
 have M:=Y2;have U:=OQ Iy (by decide) s;unfold abH at M;generalize Iy.map D.str=W at M U;rw[amX (by simp)];simp[f213,M,U,Bq]
theorem B9(c:UInt8):∀(l:Tx),0<=Go.Lib.indexByte l c↔c∈l
 |[]=>by simp[Go.Lib.indexByte]
 |b::r=>by
  have ih:=B9 c r;have A5:=Go.Lib.indexByte_ge r c;unfold Go.Lib.indexByte;by_cases h:b=c
  ·simp[h]
  ·have Z:¬c=b:=λe=>h e.symm;simp only[beq_iff_eq,h,acw,aaC,Z,false_or,<-ih];split<;>omega
theorem aeE(c:UInt8)(r:Tx):tT (c::r)=if Go.Lib.hasPrefix (c::r) [58,61]=true then 2 else if Go.Lib.hasPrefix (c::r) [60,61]=true then 2 else if Go.Lib.hasPrefix (c::r) [62,61]=true then 2 else if Go.Lib.hasPrefix (c::r) [60,62]=true then 2 else if Go.Lib.hasPrefix (c::r) [46,46]=true then 2 else if 0<=Go.Lib.indexByte Dx c then 1 else 0:=by
 have hm:=B9 c Dx;unfold tT Ou Go.Lib.hasPrefix;simp only[List.any_cons,List.any_nil,Bool.or_false,ahR,hm];grind
theorem aeF(c:UInt8)(r:Tx):ag ctx 216 [.d (.str (c::r))] []=some (.ret (.d (.int .i64 (tT (c::r)))),[]):=by
 have y:List.range' 0 5=[0,1,2,3,4]:=rfl;have A':IntKind.i64.wrap 1=1:=aB (by unfold bq;omega);have A0:IntKind.i64.wrap 2=2:=aB (by unfold bq;omega);have A1:IntKind.i64.wrap 3=3:=aB (by unfold bq;omega);have A2:IntKind.i64.wrap 4=4:=aB (by unfold bq;omega);have A3:IntKind.i64.wrap 5=5:=aB (by unfold bq;omega);have V:=B8 Dx c;rw[am0 (by simp)];simp[f216,y];iterate 6 (try (rw[ai];simp[A',A0,A1,A2,A3,aq]))
 have A4:lG (c::r) 0=c:=rfl;rw[aeE];unfold Dx at V⊢;simp[A4,V];grind
theorem UE(s:Tx):(mV s).1<=s.length:=by
 unfold mV Dw;rcases Bw s with ⟨_,_,_,e,D⟩|⟨_,_,_,e,D⟩|⟨_,_,_,e,D⟩|⟨_,_,_,e,D⟩;all_goals
  rw[e];simp only
  split
  ·simp
  ·split
   ·simp
   ·rename_i x _;simp only
    have:=(akS (λc=>decide (gj c<(oA s).1)) (l:=s.drop (oA s).2)).length_le;rw[e]at this;simp only[ahU]at this;omega
theorem OR(c:UInt8)(r:Tx):tT (c::r)<=(c::r).length:=by
 unfold tT;split
 ·rename_i h;simp only[Ou,List.any_cons,List.any_nil,Bool.or_false,ahR]at h;rcases h with h|h|h|h|h<;>exact (ml h).2
 ·simp only
  split<;>simp
set_option maxHeartbeats 1000000 in
theorem aeG(c:UInt8)(r:Tx)(Y:(c::r).length<=100000)(line yC:Int):ag ctx 152 [.d (.str (c::r)),.d (cZ ⟨0,[],0,line,yC⟩)] []=
 some (.ret (.aY [.d (cZ ⟨(fw (c::r)).2.1,(c::r).take (fw (c::r)).2.2.1,(fw (c::r)).2.2.2,line,yC⟩),.d (.int .i64 (fw (c::r)).1)]),[]):=by
 have J:lG (c::r) 0=c:=rfl;have D:=IJ c;have M:=DM c;have hw:=YY (c::r) Y;have V:=Y0 (c::r) Y;have Z:=aeF c r;have T:((c::r).takeWhile dP).length<=(c::r).length:=(akS _).length_le;have U:=UE (c::r);have W:=OR c r;have O:=aeD ((c::r).take ((c::r).takeWhile dP).length);unfold fw;generalize A0:((c::r).takeWhile dP).length=y at*;generalize A1:tT (c::r)=A' at*;generalize A2:mV (c::r)=F at*;obtain⟨n,x,e⟩:=F;simp only at V U;rw[amq (by simp)];simp only[aan]at T U W;cases H:n8 c with
 |true=>
  rw[H]at D;cases E:Bq ((c::r).take y)with
  |true=>
   rw[E]at O;simp[f152,aq,J,D,hw,T,O,H,E]
  |false=>
   rw[E]at O;by_cases I:16<y
   ·simp[f152,aq,J,D,hw,T,O,H,E,I];omega
   ·simp[f152,aq,J,D,hw,T,O,H,E,I];omega
 |false=>
  rw[H]at D;cases E:nO c with
  |true=>
   rw[E]at M;by_cases I:e=0
   ·simp[f152,aq,J,D,M,V,U,H,E,I]
   ·simp[f152,aq,J,D,M,V,U,H,E,I]
  |false=>
   rw[E]at M;by_cases I:A'=0
   ·simp[f152,aq,J,D,M,Z,W,H,E,I]
   ·simp[f152,aq,J,D,M,Z,W,H,E,I]
theorem aeH{s:Tx}(h:(mV s).2.2=0):1<=(mV s).1:=by
 unfold mV Dw at h⊢;split
 ·rename_i O;rw[aat O]at h;simp at h
 ·rename_i O;rw[aab O]at h;split
  ·rename_i A2;rw[A2]at h;simp at h
  ·simp only
   simp only[alg]at O;have:=List.length_pos_iff.2 O.1;omega
theorem GO{c:UInt8}{r:Tx}(h:(fw (c::r)).1=0):1<=(fw (c::r)).2.2.1/\(fw (c::r)).2.2.1<=(c::r).length:=by
 have Z:((c::r).takeWhile dP).length<=(c::r).length:=(akS _).length_le;have A3:=UE (c::r);have A4:=OR c r;have A5:n8 c=true->1<=((c::r).takeWhile dP).length:=by
  intro U;have:dP c=true:=by unfold dP;rw[U];rfl
  simp[this]
 have A6:=aeH (s:=c::r);unfold fw at h⊢;simp only at h⊢;generalize ((c::r).takeWhile dP).length=AI at*;generalize tT (c::r)=AJ at*;generalize mV (c::r)=F at*;by_cases V:n8 c=true
 ·simp only[aat V]at h⊢;have:=A5 V;split at h
  ·rename_i hw;rw[aat hw];exact⟨this,Z⟩
  ·rename_i hw;rw[aab hw];split at h
   ·simp at h
   ·rename_i A7;rw[aab A7];exact⟨this,Z⟩
 ·simp only[aab V]at h⊢;by_cases y:nO c=true
  ·simp only[aat y]at h⊢;split at h
   ·rename_i he;rw[aat he];exact⟨A6 he,A3⟩
   ·rename_i he;exact absurd h he
  ·simp only[aab y]at h⊢;split at h
   ·simp at h
   ·rename_i he;rw[aab he];exact⟨by simp only;omega,A4⟩
set_option maxHeartbeats 1000000 in
theorem OT(s:Tx)(A8:s.length<=16384):∀(f i:Nat)(out:List bI)(v4 v5 E:Nat)(H I:aD),i<=s.length->s.length-i<f->out.length<=i->
 aZ ctx 92 (.loop (Code.at (bg f92) [1,1,1,1,0,0])) ⟨62,aX,[(4,true,.ptr 300 1 0),(5,true,.ptr 950 1 0),(6,true,.vec 400 v4 0 out.length)],
  [⟨200,1,.vec 5 []⟩,⟨300,1,.box [.d (.int .i64 0),.d (.str []),.d (.int .i64 0),.d (.int .i64 0),.d (.int .i64 0)]⟩,⟨400,v4,.vec 5 (out.map cZ)⟩,⟨500,v5,H⟩,⟨550,E,I⟩,⟨950,1,xz s i⟩]⟩
  (GK 0 (nC Tryz.prog WI 0 [.tmp 2,.tmp 3,.cell 4 55]))=some (.ret (.aY [.d (.list ((nD s f i out).1.map cZ)),.d (.int .i64 (nD s f i out).2.1),.d (cZ (nD s f i out).2.2)]),[])
 |0,i,out,v4,v5,E,H,I,hi,A9,AA=>by omega
 |f+1,i,out,v4,v5,E,H,I,hi,A9,AA=>by
  have D:=aiS s i hi (by omega) (s.length+1) (by omega);have AB:=wc (s.length+1) (s.drop i);unfold nD;generalize fX (s.length+1) (s.drop i)=g at*;obtain⟨n,ok⟩:=g;simp only[ahU]at AB;simp only at D⊢;obtain⟨j,AC⟩:∃j,j=i+n:=⟨_,rfl⟩;have AD:j<=s.length:=by omega
  have AK:((i+n:Nat):Int)=(i:Int)+n:=by omega
  rw[<-AC]at D⊢;have J:=OL s j AD;generalize M:ly (s.take j)=p at*;obtain⟨l,c⟩:=p;rw[ai];cases ok with
  |false=>
   simp[M]at D;simp[f92,aq,D,here]
  |true=>
   simp only[Bool.true_eq_false,acw];cases W:s.drop j with
   |nil=>
    rw[W]at J;simp[M]at D J;have g1:(out.length+1)*48<=140737488355328/\out.length<=4611686018427387903:=by omega
    simp[f92,aq,D,J,here,g1]
   |cons a r=>
    rw[W]at J;have AL:j+(r.length+1)=s.length:=by have:=ahS List.length W;simp at this;omega
    have T:=aeG a r (by simp;omega) l c;have A':=GO (c:=a) (r:=r);have AE:¬(a::r=[]):=by simp
    simp only[aab AE];generalize fw (a::r)=F at*;obtain⟨e,AF,m,x⟩:=F;simp only at T A'⊢;simp[M]at D J;have g1:(out.length+1)*48<=140737488355328/\out.length<=4611686018427387903:=by omega
    by_cases he:e=0
    ·subst he;obtain⟨AM,AG⟩:=A' rfl;simp only[aan]at AG;have A0:=Bu s j m (by omega) (by omega);have ih:=λv4 v5 E H I=>OT s A8 f (j+m) (out++[⟨AF,(a::r).take m,x,l,c⟩]) v4 v5 E H I (by omega) (by omega) (by simp;omega);have A1:min m (r.length+1)=m:=by omega
     have AN:((min m (r.length+1):Nat):Int)=m:=by rw[A1]
     simp at T;simp[f92,M]at ih A0⊢;simp[aq,D,J,T,g1,A1,A0,ih]
    ·simp at T;have AH:¬((e:Int)=0):=by omega
     simp[f92,aq,D,J,T,he,AH,here]
theorem aiU(s:Tx):ag ctx 92 [.d (.str s)] []=some (.ret (.aY [.d (.list ((jE s).1.map cZ)),.d (.int .i64 (jE s).2.1),.d (cZ (jE s).2.2)]),[]):=by
 rw[arx (by simp)];unfold jE;by_cases h:16384<s.length
 ·have Y:(16384:Int)<s.length:=by omega
  simp[f92,aq,h,Y]
 ·have Y:¬((16384:Int)<s.length):=by omega
  have U:=λv4 v5 E H I=>OT s (by omega) (s.length+1) 0 [] v4 v5 E H I (by omega) (by omega) (by simp);rw[aab h];generalize nD s (s.length+1) 0 []=L at*;have M:ly []=(1,1):=rfl;simp[f92,M]at U;simp[f92,aq,h,Y];exact U _ _ _ _ _
end Go.Am
end
section
namespace Go.Am
open Go Go.Proofs
variable [Inhabited bV]
inductive Laid(s:Tx):Nat->List bI->Prop
 |fin (i:Nat) (h:i<=s.length):Laid s i [here (ly (s.take s.length))]
 |sign (i j m:Nat) (k n:Int) (r:List bI) (H:i<=j) (I:j+m<=s.length) (J:1<=m) (h:Laid s (j+m) r):
  Laid s i (⟨k,(s.drop j).take m,n,(ly (s.take j)).1,(ly (s.take j)).2⟩::r)
theorem Lr(s:Tx):∀(f i:Nat)(out:List bI),i<=s.length->(nD s f i out).2.1=0->∃r,(nD s f i out).1=out++r/\Laid s i r/\(nD s f i out).2.2=⟨0,[],0,0,0⟩
 |0,i,out,hi,h=>by simp[nD]at h
 |f+1,i,out,hi,h=>by
  have M:=wc (s.length+1) (s.drop i);unfold nD at h⊢;generalize fX (s.length+1) (s.drop i)=g at*;obtain⟨n,ok⟩:=g;simp only[ahU]at M;simp only at h⊢;cases ok with
  |false=>simp at h
  |true=>
   simp only[Bool.true_eq_false,acw]at h⊢;by_cases D:s.drop (i+n)=[]
   ·rw[aat D];have O:i+n=s.length:=by
     have:=ahS List.length D;simp at this;omega
    exact⟨_,rfl,by rw[O];exact .fin i hi,rfl⟩
   ·rw[aab D]at h⊢;obtain⟨a,t,E⟩:∃a t,s.drop (i+n)=a::t:=by
     cases T:s.drop (i+n)with
     |nil=>exact absurd T D
     |cons a t=>exact⟨a,t,rfl⟩
    have Z:(i+n)+(t.length+1)=s.length:=by have:=ahS List.length E;simp at this;omega
    have U:=GO (c:=a) (r:=t);rw[E]at h⊢;by_cases he:(fw (a::t)).1=0
    ·have V:¬((fw (a::t)).1≠0):=λhh=>hh he;rw[aab V]at h⊢;obtain⟨W,Y⟩:=U he;simp only[aan]at Y;obtain⟨r,H,I,J⟩:=Lr s f (i+n+(fw (a::t)).2.2.1) _ (by omega) h;refine⟨_::r,by rw[H,acD];rfl,?_,J⟩;have:=Laid.sign (s:=s) i (i+n) (fw (a::t)).2.2.1 (fw (a::t)).2.1 (fw (a::t)).2.2.2 r (by omega) (by omega) W I;rw[E]at this;exact this
    ·rw[aat he]at h;exact absurd h he
end Go.Am
end
section
namespace Go.Am
open Go Go.Proofs Go.Proofs.Tryz
variable [Inhabited bV]
set_option maxRecDepth 20000
theorem UG(e:Er)(a:List AV)(b:AV)(c:List AV)(A8:a.length=3)(A4:c.length=5):zx ctx 93 [.ptr 0 0 0,.ptr 1 0 0,.ptr 2 0 0,.iA 161 (fD e)] [.box a,.box [b],.box c]=some (.ret (.aY []),[(0,.box [.d (.str []),.lit (.slice none 0 0),.lit (.slice none 0 0)]),(0,.box [.d (.int .i64 e.e)]),(0,.box [.d (.int .i64 0),.d (.str []),.d (.int .i64 0),.d (.int .i64 e.line),.d (.int .i64 e.yC)])]):=by
 obtain⟨A0,a2,a3,rfl⟩:∃A0 a2 a3,a=[A0,a2,a3]:=by
  match a,A8 with
  |[A0,a2,a3],_=>exact⟨A0,a2,a3,rfl⟩
 obtain⟨I,J,M,O,T,rfl⟩:∃I J M O T,c=[I,J,M,O,T]:=by
  match c,A4 with
  |[I,J,M,O,T],_=>exact⟨I,J,M,O,T,rfl⟩
 rw[ahE (by rfl) (by rfl) (by simp)];simp[f93];erw[yA rfl];simp[fD,aq]
theorem aol(x y A1 I J M O T:D)(aj:List D):zx ctx 93 [.ptr 0 0 0,.ptr 1 0 0,.ptr 2 0 0,.lit .nilIface] [.box [.d x,.vec 3 0 0 aj.length,.d y],.box [.d A1],.box [.d I,.d J,.d M,.d O,.d T],.vec 8 aj]=
 some (.ret (.aY []),[(0,.box [.d x,.vec 3 1 0 aj.length,.d y]),(0,.box [.d A1]),(0,.box [.d I,.d J,.d M,.d O,.d T]),(1,.vec 8 aj)]):=by
 rw[ahE (by rfl) (by rfl) (by simp)];simp[f93];erw[yA rfl];simp
theorem OW{L:List bI}{kn:Tx->Int}{f:Nat}{s V:PS}{p:Pg}(h:kW L kn f s=.ok p V):p.vars=V.vars:=by
 unfold kW at h;revert h
 have W:∀{α β:Type}{r:PM α}{k:α->PS->PM β}{b:β}{V:PS},r.bind k=.ok b V->∃a s,r=.ok a s/\k a s=.ok b V:=by
  intro α β r k b V h;cases r with
  |ok a s=>exact⟨a,s,rfl,h⟩
  |bad e s=>cases h
  |out=>cases h
 intro h;obtain⟨_,_,_,h⟩:=W h;obtain⟨_,_,_,h⟩:=W h;obtain⟨_,_,_,h⟩:=W h;obtain⟨_,_,_,h⟩:=W h;obtain⟨_,AL,AM,h⟩:=W h;obtain⟨_,AN,AO,h⟩:=W h;cases h;rfl
def Ls(p:Pg):D:=.agg [.str p.name,.list (p.vars.map aW),.list (p.body.map bX)]
theorem Y3(c:UInt8)(r:Tx)(h:(fw (c::r)).1=0):1<=(fw (c::r)).2.1:=by
 unfold fw at h⊢;simp only at h⊢;repeat' split
 all_goals simp_all
def qC(text:Tx):Pg×Int×bI:=
 if (jE text).2.1≠0 then (⟨[],[],[]⟩,(jE text).2.1,(jE text).2.2)
 else match kW (jE text).1 kindN (20*(jE text).1.length+19) ⟨0,0,[]⟩with
  | .ok p _=>(p,0,⟨0,[],0,0,0⟩)
  | .bad e _=>(⟨[],[],[]⟩,e.e,⟨0,[],0,e.line,e.yC⟩)
  | .out=>(⟨[],[],[]⟩,5,⟨0,[],0,0,0⟩)
theorem JK(s:Tx)(A9:s.length<=16384):∀(f i:Nat)(out:List bI),out.length<=i->i<=s.length->s.length-i<f->(∀(k:Nat)(t:bI),out[k]?=some t->t.kind≠0/\1<=t.line)->(nD s f i out).2.1=0->OkL (nD s f i out).1/\(nD s f i out).1.length<=s.length+1
 |0,i,out,U,hi,AA,A2,h=>by omega
 |f+1,i,out,U,hi,AA,A2,h=>by
  have AB:=wc (s.length+1) (s.drop i);unfold nD at h⊢;generalize fX (s.length+1) (s.drop i)=g at*;obtain⟨n,ok⟩:=g;simp only[ahU]at AB;simp only at h⊢;cases ok with
  |false=>simp at h
  |true=>
   simp only[Bool.true_eq_false,acw]at h⊢;by_cases Y:s.drop (i+n)=[]
   ·rw[aat Y];have H:=Dv (s:=s) (i:=i+n);refine⟨⟨λk t E=>?_,λk t E=>?_,by simp;omega⟩,by simp;omega⟩
    ·by_cases Z:k<out.length
     ·rw[aaF Z]at E;have:=A2 k t E;simp;constructor
      ·exact λh=>absurd h this.1
      ·intro h;omega
     ·rw[abI (by omega)]at E;by_cases A':k-out.length=0
      ·rw[A']at E;simp at E;subst E;simp[here];omega
      ·rw[afX (by simp;omega)]at E;cases E
    ·by_cases Z:k<out.length
     ·rw[aaF Z]at E;exact (A2 k t E).2
     ·rw[abI (by omega)]at E;by_cases A':k-out.length=0
      ·rw[A']at E;simp at E;subst E;exact H.1
      ·rw[afX (by simp;omega)]at E;cases E
   ·rw[aab Y]at h⊢;obtain⟨a,t,A6⟩:∃a t,s.drop (i+n)=a::t:=by
     cases A4:s.drop (i+n)with
     |nil=>exact absurd A4 Y
     |cons a t=>exact⟨a,t,rfl⟩
    have AC:(i+n)+(t.length+1)=s.length:=by have:=ahS List.length A6;simp at this;omega
    have AD:=GO (c:=a) (r:=t);have AE:=Y3 a t;rw[A6]at h⊢;by_cases he:(fw (a::t)).1=0
    ·have AF:¬((fw (a::t)).1≠0):=λhh=>hh he;rw[aab AF]at h⊢;obtain⟨AP,AG⟩:=AD he;simp only[aan]at AG;have H:=Dv (s:=s) (i:=i+n);refine JK s A9 f _ _ (by simp;omega) (by omega) (by omega) ?_ h;intro k u E;by_cases Z:k<out.length
     ·rw[aaF Z]at E;exact A2 k u E
     ·rw[abI (by omega)]at E;by_cases A':k-out.length=0
      ·rw[A']at E;simp at E;subst E;exact⟨by have:=AE he;simp only;omega,H.1⟩
      ·rw[afX (by simp;omega)]at E;cases E
    ·rw[aat he]at h;exact absurd h he
theorem JL{s:Tx}(h:(jE s).2.1=0):OkL (jE s).1/\(jE s).1.length<=16385/\1<=(jE s).1.length:=by
 unfold jE at h⊢;split at h
 ·simp at h
 ·rename_i U;rw[aab U];have:=JK s (by omega) (s.length+1) 0 [] (by simp) (by omega) (by omega) (by simp) h;refine⟨this.1,by omega,?_⟩;obtain⟨r,AH,AI,_⟩:=Lr s _ 0 [] (by omega) h;rw[AH];cases AI<;>simp
theorem abZ(text:Tx):ag ctx 57 [.d (.str text)] []=some (.ret (.aY [.d (Ls (qC text).1),.d (.int .i64 (qC text).2.1),.d (cZ (qC text).2.2)]),[]):=by
 have U:=aiU text;rw[aro (by simp)];unfold qC;by_cases he:(jE text).2.1=0
 ·obtain⟨ok,AC,AQ⟩:=JL he;rw[he]at U;rw[aab (λh=>h he)];generalize (jE text).1=L at*;have AJ:L.length<1000000:=by omega
  have A7:Iv L ⟨0,0,[]⟩:=⟨by simp only;omega,by simp,by simp,by simp⟩;have H:=YX AJ ok A7 (20*L.length+19) (by simp);have Y:=II (kindN:=kindN) ok A7 (f:=20*L.length+19) (by simp);simp only[pC,pB,ahM,aaw]at H;cases A3:kW L kindN (20*L.length+19) ⟨0,0,[]⟩with
  |out=>rw[A3]at Y;exact Y.elim
  |bad e s=>
   simp only[A3,Dt,lS,oE]at H;have H:=H _ rfl;simp at H;have A5:=UG e;simp[f57,qq,te,jZ,KI,U,aq,H,UG,Ls]
  |ok p s=>
   simp only[A3,EE,oE]at H;have H:=H _ rfl;have AK:=OW A3;have A5:=λx y A1 I J M O T=>aol x y A1 I J M O T (s.vars.map aW);simp at H A5;simp[f57,qq,te,jZ,KI,U,aq,H,A5,Ls,AK]
 ·simp[f57,qq,te,jZ,KI,U,he,aq,Ls,cZ]
end Go.Am
end
section
namespace Go.Am
open Go
def aeI(c:UInt8):Bool:=(decide (65<=c.toNat)&&decide (c.toNat<=90))||(decide (97<=c.toNat)&&decide (c.toNat<=122))
def aom(c:UInt8):Bool:=decide (48<=c.toNat)&&decide (c.toNat<=57)
def Bx:List UInt8->Nat->Bool
 |[],_=>true
 |c::r,i=>(aeI c||(!decide (i=0)&&(decide (c=95)||aom c)))&&Bx r (i+1)
def fK(s:Tx):Bool:=decide (1<=s.length)&&(decide (s.length<=16)&&(!Bq s&&Bx s 0))
structure Pn where
 name:Tx
 ty:Int
 inp:Bool
 deriving DecidableEq
def eY(p:Pn):D:=.agg [.str p.name,.int .i64 p.ty,.bool p.inp]
def mm(ins outs:List (Tx×Bool))(n:Nat):List Pn:=ins.map (λx=>⟨x.1,if x.2 then 1 else 2,true⟩)++outs.map (λx=>⟨x.1,if x.2 then 1 else 2,false⟩)++List.replicate n ⟨[],1,false⟩
def EX:List (Tx×Bool):=[([68,111,110,101],false),([66,117,115,121],false),([65,99,116,105,118,101],false),([67,111,109,109,97,110,100,65,98,111,114,116,101,100],false),([69,114,114,111,114],false)]
def pnT:List (Int×List Pn):=[
 (10,mm [([73,78],false),([80,84],true)] [([81],false),([69,84],true)] 0),
 (11,mm [([73,78],false),([80,84],true)] [([81],false),([69,84],true)] 0),
 (12,mm [([73,78],false),([80,84],true)] [([81],false),([69,84],true)] 2),
 (13,mm [([67,85],false),([82],false),([80,86],true)] [([81],false),([67,86],true)] 1),
 (14,mm [([67,68],false),([76,68],false),([80,86],true)] [([81],false),([67,86],true)] 1),
 (15,mm [([67,76,75],false)] [([81],false)] 1),
 (16,mm [([67,76,75],false)] [([81],false)] 1),
 (17,mm [([83,49],false),([82],false)] [([81,49],false)] 0),
 (18,mm [([83],false),([82,49],false)] [([81,49],false)] 0),
 (20,mm [([65,120,105,115],true),([69,110,97,98,108,101],false)] [([83,116,97,116,117,115],false),([69,114,114,111,114],false)] 0),
 (21,mm [([65,120,105,115],true),([69,120,101,99,117,116,101],false)] EX 2),
 (22,mm [([65,120,105,115],true),([69,120,101,99,117,116,101],false)] EX 2),
 (23,mm [([65,120,105,115],true),([69,120,101,99,117,116,101],false)] EX 2),
 (24,mm [([65,120,105,115],true),([69,120,101,99,117,116,101],false),([80,111,115,105,116,105,111,110],true),([86,101,108,111,99,105,116,121],true),([66,117,102,102,101,114,77,111,100,101],true)] EX 2),
 (25,mm [([65,120,105,115],true),([69,120,101,99,117,116,101],false),([68,105,115,116,97,110,99,101],true),([86,101,108,111,99,105,116,121],true),([66,117,102,102,101,114,77,111,100,101],true)] EX 2),
 (26,mm [([65,120,105,115],true),([69,120,101,99,117,116,101],false),([68,105,115,116,97,110,99,101],true),([86,101,108,111,99,105,116,121],true),([66,117,102,102,101,114,77,111,100,101],true)] EX 2),
 (27,mm [([65,120,105,115],true),([69,120,101,99,117,116,101],false),([86,101,108,111,99,105,116,121],true)] [([73,110,86,101,108,111,99,105,116,121],false),([66,117,115,121],false),([65,99,116,105,118,101],false),([67,111,109,109,97,110,100,65,98,111,114,116,101,100],false),([69,114,114,111,114],false)] 2),
 (28,mm [([65,120,105,115],true),([69,120,101,99,117,116,101],false),([77,97,115,116,101,114],true),([78,117,109,101,114,97,116,111,114],true),([68,101,110,111,109,105,110,97,116,111,114],true)] [([73,110,71,101,97,114],false),([66,117,115,121],false),([65,99,116,105,118,101],false),([67,111,109,109,97,110,100,65,98,111,114,116,101,100],false),([69,114,114,111,114],false)] 2),
 (29,mm [([65,120,105,115],true),([69,120,101,99,117,116,101],false)] [([68,111,110,101],false),([69,114,114,111,114],false)] 1),
 (30,mm [([65,120,105,115],true),([69,120,101,99,117,116,101],false),([80,111,115,105,116,105,111,110],true)] [([68,111,110,101],false),([69,114,114,111,114],false)] 1),
 (31,mm [([65,120,105,115],true),([69,110,97,98,108,101],false),([80,101,114,99,101,110,116],true)] [([69,110,97,98,108,101,100],false)] 0)]
def By:List (Int×List Pn)->Int->List Pn
 |[],_=>[]
 |(a,l)::r,k=>if a=k then l else By r k
def cG(k:Int):List Pn:=By pnT k
def xA:List Pn->Tx->Option Pn
 |[],_=>none
 |p::r,s=>if p.name=s/\s≠[]then some p else xA r s
def pt(k:Int)(s:Tx):Option Pn:=xA (cG k) s
def bE:List Vr->Tx->Option Vr
 |[],_=>none
 |v::r,s=>if v.name=s then some v else bE r s
def bO(v:Vr):Int:=if v.arr=true then v.hi-v.lo+1 else if 2<v.ty then (cG v.ty).length else 1
structure Te where
 t:Int
 e:Int
 line:Int
 deriving DecidableEq
def jv(t:Int):Te:=⟨t,0,0⟩
def fe(e line:Int):Te:=⟨0,e,line⟩
def pv(op t:Int):Int:=if op=6\/(8<=op/\op<=12)\/(15<=op/\op<=18)then 1 else if op=13\/op=14 then t else 2
def q8(op:Int):Int:=if op=6\/(8<=op/\op<=12)then 1 else 2
def si(op line:Int)(a b:Te):Te:=
 if a.e≠0 then ⟨0,a.e,a.line⟩else if b.e≠0 then ⟨0,b.e,b.line⟩else
 if a.t≠pv op a.t\/b.t≠pv op a.t then fe 10 line else jv (q8 op)
theorem kc{op line:Int}{a b:Te}(h:(si op line a b).e=0):a.e=0/\b.e=0/\a.t=pv op a.t/\b.t=pv op a.t/\si op line a b=jv (q8 op):=by
 unfold si at h⊢;by_cases E:a.e≠0
 ·rw[aat E]at h;exact absurd h E
 ·rw[aab E]at h⊢;by_cases H:b.e≠0
  ·rw[aat H]at h;exact absurd h H
  ·rw[aab H]at h⊢;by_cases I:a.t≠pv op a.t\/b.t≠pv op a.t
   ·rw[aat I]at h;simp[fe]at h
   ·rw[aab I];simp only[ne_eq,alg,Decidable.not_not]at E H I;exact⟨E,H,I.1,I.2,rfl⟩
mutual
def bm(vs:List Vr):Ex->Te
 | .mk op _ name field sub line=>
  if op=1\/op=2 then jv op
  else if op=3\/op=4\/op=5 then
   match bE vs name with
   |none=>fe 9 line
   |some v=>
    if op=5 then (if v.ty<=2 then fe 10 line else match pt v.ty field with
     |none=>fe 9 line
     |some p=>jv p.ty)
    else if v.arr≠decide (op=4)\/2<v.ty then fe 10 line
    else if op=4 then vA vs v.ty sub
    else jv v.ty
  else sI vs op line sub
def vA(vs:List Vr)(t:Int):List Ex->Te
 |[]=>jv t
 |x::_=>if (bm vs x).e≠0 then fe (bm vs x).e (bm vs x).line else if (bm vs x).t≠1 then fe 10 (iX x)else jv t
def sI(vs:List Vr)(op line:Int):List Ex->Te
 |[]=>jv 0
 |[x]=>si op line (bm vs x) (bm vs x)
 |x::y::_=>si op line (bm vs x) (bm vs y)
end
def cu(vs:List Vr)(x:Ex)(t:Int):Int×Int:=if (bm vs x).e≠0 then ((bm vs x).e,(bm vs x).line)else if (bm vs x).t≠t then (10,iX x)else (0,0)
def eV(op:Int):Nat:=if op=4\/op=6\/op=7 then 1 else if 7<op then 2 else 0
mutual
def bn:Ex->Bool
 | .mk op n name field sub _=>
  !decide ((op=1/\n<0)\/(op=2/\(n<0\/1<n))\/(2<op/\n≠0)\/op<1\/21<op)&&
  (decide (sub.length=eV op)&&((if op=3\/op=4\/op=5 then fK name else decide (name=[]))&&((if op=5 then fK field else decide (field=[]))&&bQ sub)))
def bQ:List Ex->Bool
 |[]=>true
 |x::r=>bn x&&bQ r
end
theorem kE:∀l:List Ex,bQ l=true↔∀x∈l,bn x=true
 |[]=>by simp[bQ]
 |x::r=>by simp[bQ,kE r]
def fA(x:Ex):Bool:=decide (dj x=0)&&(decide (nQ x=0)&&decide ((gT x).length+(nR x).length+(ic x).length=0))
def xB(l:List Int):Bool:=!decide (l.length=0)&&(decide (l.length%2=0)&&l.all λn=>decide (n≠ -9223372036854775808))
def bY(op:Int)(conds E fields blocks:Nat):Bool:=
 if op=2 then decide (conds=max 1 conds)&&(decide (E=0)&&(decide (fields=0)&&(decide (max 1 conds<=blocks)&&decide (blocks<=max 1 conds+1))))
 else if op=3 then decide (conds=0)&&(decide (fields=0)&&(decide (E<=blocks)&&decide (blocks<=E+1)))
 else if op=4 then decide (conds=3)&&(decide (E=0)&&(decide (fields=0)&&decide (blocks=1)))
 else if op=5\/op=6 then decide (conds=0)&&(decide (E=0)&&(decide (fields=0)&&decide (blocks=1)))
 else if op=9 then decide (conds=fields)&&(decide (E=0)&&decide (blocks=0))
 else decide (conds=0)&&(decide (E=0)&&(decide (fields=0)&&decide (blocks=0)))
mutual
def gC:Sm->Bool
 | .mk op name to val conds E fields blocks _=>
  decide (1<=op/\op<=9)&&((if op=4\/op=9 then fK name else decide (name=[]))&&
  ((if op=1 then decide (dj to=3\/dj to=4)&&bn to else fA to)&&
  ((if op=1\/op=3\/op=5\/op=6 then !fA val&&bn val else fA val)&&
  (bQ conds&&(bY op conds.length E.length fields.length blocks.length&&
  (fields.all fK&&(E.all xB&&cH blocks)))))))
def fG:List Sm->Bool
 |[]=>true
 |x::r=>gC x&&fG r
def cH:List (List Sm)->Bool
 |[]=>true
 |b::r=>fG b&&cH r
end
def tV(k:Int):Bool:=(cG k).length≠0
def dN(v:Vr):Bool:=
 fK v.name&&(decide (0<=v.sec/\v.sec<=2)&&(decide (v.ty=1\/v.ty=2)||tV v.ty)&&
 ((if v.arr=true then decide (v.ty<=2/\0<=v.lo/\v.lo<=v.hi/\v.hi<=255)else decide (v.lo=0/\v.hi=0))&&
 !decide (((v.arr=true\/2<v.ty)/\v.init≠0)\/(v.ty=2/\(v.init<0\/1<v.init))\/v.init= -9223372036854775808)))
def u7(p:Pg):Bool:=fK p.name&&(decide (p.vars.length<=64)&&(p.vars.all dN&&fG p.body))
abbrev EL:=Int×Int
def dR(a b:EL):EL:=if a.1≠0 then a else b
def Lt(a:Te):EL:=(a.e,a.line)
def yD(vs:List Vr)(to val:Ex)(line:Int):EL:=
 match bE vs (gT to)with
 |none=>(9,iX to)
 |some v=>if v.sec=1 then (1,iX to)else dR (Lt (bm vs to)) (dR (Lt (bm vs val)) (if (bm vs val).t≠(bm vs to).t then (10,line)else (0,0)))
def lV(vs:List Vr)(t:Int):List Ex->EL
 |[]=>(0,0)
 |x::r=>dR (cu vs x t) (lV vs t r)
def lW(vs:List Vr)(k line:Int):List Tx->List Ex->List Tx->EL
 |f::H,x::xs,p=>match pt k f with
  |none=>(9,line)
  |some q=>if q.inp=false then (9,line)else if f∈p then (11,line)else dR (cu vs x q.ty) (lW vs k line H xs (p++[f]))
 |_,_,_=>(0,0)
mutual
def mu(vs:List Vr)(D:Bool):Sm->EL
 | .mk op name to val conds _ fields blocks line=>
  if op=1 then yD vs to val line
  else if op=2 then gD vs D conds blocks
  else if op=3 then dR (cu vs val 1) (gD vs D [] blocks)
  else if op=4 then (match bE vs name with
   |none=>(9,line)
   |some v=>if v.sec=1 then (1,line)else if v.arr=true\/v.ty≠1 then (10,line)else dR (lV vs 1 conds) (uK vs blocks))
  else if op=5 then dR (cu vs val 2) (uK vs blocks)
  else if op=6 then dR (uK vs blocks) (cu vs val 2)
  else if op=7 then (if D=true then (0,0)else (14,line))
  else if op=9 then (match bE vs name with
   |none=>(9,line)
   |some v=>if v.ty<=2 then (10,line)else lW vs v.ty line fields conds [])
  else (0,0)
def fm(vs:List Vr)(D:Bool):List Sm->EL
 |[]=>(0,0)
 |x::r=>dR (mu vs D x) (fm vs D r)
def gD(vs:List Vr)(D:Bool):List Ex->List (List Sm)->EL
 |_,[]=>(0,0)
 |[],b::r=>dR (fm vs D b) (gD vs D [] r)
 |c::cs,b::r=>dR (cu vs c 2) (dR (fm vs D b) (gD vs D cs r))
def uK(vs:List Vr):List (List Sm)->EL
 |[]=>(0,0)
 |b::_=>fm vs true b
end
def yE:List Vr->List Vr->Int->EL
 |[],_,_=>(0,0)
 |v::r,p,n=>if (bE p v.name).isSome then (11,v.line)else if 1024<n+bO v then (13,v.line)else yE r (p++[v]) (n+bO v)
def qD(p:Pg):EL:=dR (yE p.vars [] 0) (fm p.vars false p.body)
mutual
def dG:Ex->Bool
 | .mk _ n _ _ sub _=>decide (-9223372036854775808<=n/\n<=9223372036854775807)&&dB sub
def dB:List Ex->Bool
 |[]=>true
 |x::r=>dG x&&dB r
end
def OX(n:Int):Bool:=decide (-9223372036854775808<=n/\n<=9223372036854775807)
mutual
def qe:Sm->Bool
 | .mk _ _ to val conds D _ blocks _=>dG to&&(dG val&&(dB conds&&(D.all (λl=>l.all OX)&&fL blocks)))
def iZ:List Sm->Bool
 |[]=>true
 |x::r=>qe x&&iZ r
def fL:List (List Sm)->Bool
 |[]=>true
 |b::r=>iZ b&&fL r
end
end Go.Am
end
section
namespace Go.Am
open Go Go.Proofs
variable [Inhabited bV]
structure DN(t:bI):Prop where
 name:t.kind=1->fK t.text=true
 num:t.kind=3->0<=t.n/\t.n<=9223372036854775807
theorem FY:∀(s:Tx)(i:Nat),i≠0->Bx (s.takeWhile dP) i=true
 |[],_,_=>by simp[Bx]
 |c::r,i,hi=>by
  by_cases h:dP c=true
  ·rw[List.takeWhile_cons_of_pos h];simp only[Bx,FY r (i+1) (by omega),ak8];unfold dP n8 nO at h;unfold aeI aom;have e:c=95↔c.toNat=95:=⟨λh=>by rw[h];rfl,λh=>UInt8.toNat.inj (by rw[h];rfl)⟩;simp only[ahR,Ds,aak,ahK,afP,e]at h⊢;omega
  ·rw[List.takeWhile_cons_of_neg h];simp[Bx]
theorem aiV{c:UInt8}{r:Tx}(E:n8 c=true)(hw:Bq ((c::r).takeWhile dP)=false)(I:((c::r).takeWhile dP).length<=16):fK ((c::r).takeWhile dP)=true:=by
 have hi:dP c=true:=by unfold dP;rw[E];rfl
 have H:=FY r 1 (by decide);rw[List.takeWhile_cons_of_pos hi]at hw I⊢;unfold fK;have V:aeI c=true:=E;simp only[aan]at I;simp only[Bx,V,H,hw,aan,Bool.true_or,Bool.not_false,Bool.true_and,ak8,Bool.and_self];simp only[Ds,aak];omega
theorem Ak{α:Type}(p:α->Bool):∀l:List α,l.take (l.takeWhile p).length=l.takeWhile p
 |[]=>rfl
 |a::r=>by
  by_cases h:p a=true
  ·rw[List.takeWhile_cons_of_pos h,aan,List.take_succ_cons,Ak p r]
  ·rw[List.takeWhile_cons_of_neg h];rfl
theorem aiW(c:UInt8):gj c<=99:=by
 unfold gj nO;split
 ·rename_i h;simp only[Ds,aak]at h;omega
 ·split<;>omega
theorem UH(base:Nat)(W:1<=base):∀(s:Tx)(x y:Nat),x<=9223372036854775807->Bp base x s=some y->y<=9223372036854775807
 |[],x,y,J,h=>by simp only[Bp,aa1]at h;omega
 |c::r,x,y,J,h=>by
  unfold Bp at h;split at h
  ·cases h
  ·rename_i H;have A0:=aiW c;have Y:x<=(9223372036854775807-gj c)/base:=by omega
   have A1:x*base<=9223372036854775807-gj c:=akm (abS base Y) (Nat.div_mul_le_self _ _);exact UH base W r _ y (by omega) h
theorem ab1(s:Tx):1<=(oA s).1:=by
 unfold oA;repeat' split
 all_goals decide
theorem aiX(s:Tx)(h:(mV s).2.2=0):(mV s).2.1<=9223372036854775807:=by
 unfold mV Dw at h⊢;split
 ·simp
 ·rename_i M;rw[aab M]at h;split
  ·simp
  ·rename_i x J;exact UH _ (ab1 s) _ 0 x (by omega) J
theorem aeJ(c:UInt8)(r:Tx)(h:(fw (c::r)).1=0)(l k:Int):DN ⟨(fw (c::r)).2.1,(c::r).take (fw (c::r)).2.2.1,(fw (c::r)).2.2.2,l,k⟩:=by
 unfold fw at h⊢;simp only at h⊢;by_cases E:n8 c=true
 ·simp only[E,acH]at h⊢;by_cases hw:Bq ((c::r).take ((c::r).takeWhile dP).length)=true
  ·simp only[hw,acH];exact⟨λh=>by simp at h,λh=>by simp at h⟩
  ·simp only[hw,acw,acW]at h⊢;by_cases I:16<((c::r).takeWhile dP).length
   ·rw[aat I]at h;simp at h
   ·simp only[aab I];refine⟨λ_=>?_,λh=>by simp at h⟩;rw[Ak]at hw⊢;exact aiV E (by simpa using hw) (by omega)
 ·simp only[E,acw,acW]at h⊢;by_cases T:nO c=true
  ·simp only[T,acH]at h⊢;by_cases H:(mV (c::r)).2.2=0
   ·simp only[H,acH];refine⟨λh=>by simp at h,λ_=>?_⟩;have:=aiX (c::r) H;simp only
    omega
   ·rw[aab H]at h;exact absurd h H
  ·simp only[T,acw,acW]at h⊢;by_cases U:tT (c::r)=0
   ·rw[aat U]at h;simp at h
   ·simp only[aab U];exact⟨λh=>by simp at h,λh=>by simp at h⟩
theorem UI(s:Tx):∀(f i:Nat)(out:List bI),(∀t∈out,DN t)->∀t∈(nD s f i out).1,DN t
 |0,i,out,O=>by simp[nD]
 |f+1,i,out,O=>by
  unfold nD;generalize fX (s.length+1) (s.drop i)=g;obtain⟨n,ok⟩:=g;simp only
  split
  ·simp
  ·split
   ·intro t D;rcases aa0.1 D with D|D
    ·exact O t D
    ·rw[akB.1 D];exact⟨λh=>by simp[here]at h,λh=>by simp[here]at h⟩
   ·rename_i Z;split
    ·simp
    ·rename_i he;obtain⟨a,r,A'⟩:∃a t,s.drop (i+n)=a::t:=by
      cases M:s.drop (i+n)with
      |nil=>exact absurd M Z
      |cons a t=>exact⟨a,t,rfl⟩
     refine UI s f _ _ ?_;intro t D;rcases aa0.1 D with D|D
     ·exact O t D
     ·rw[akB.1 D];rw[A']at he⊢;exact aeJ a r (by simpa using he) _ _
theorem aiY(s:Tx):∀t∈(jE s).1,DN t:=by
 unfold jE;split
 ·simp
 ·exact UI s _ _ [] (by simp)
theorem aeK{s:Tx}(h:(jE s).2.1=0):(jE s).1.length<=s.length+1:=by
 unfold jE at h⊢;split at h
 ·simp at h
 ·rename_i E;rw[aab E];exact (JK s (by omega) (s.length+1) 0 [] (by simp) (by omega) (by omega) (by simp) h).2
end Go.Am
end
section
namespace Go.Am
open Go Go.ChangeShapes Go.WideShapes Go.RowKit
def IK(P:Program)(ok:TypeId->Bool):List Field->Nat->Nat->Bool
 |[],o,A9=>o == A9
 |f::r,o,A9=>f.offset == o&&ok f.type&&IK P ok r (o+P.cellsOf f.type) A9
def uL(P:Program):Nat->TypeId->Bool
 |0,_=>false
 |n+1,t=>match P.underlying t with
  |some .bool|some (.int _)|some .string=>P.cellsOf t == 1
  |some (.slice e)=>P.cellsOf t == 1&&uL P n e&&decide (1<=P.cellsOf e)
  |some (.struct V)=>IK P (uL P n) V.toList 0 (P.cellsOf t)
  |_=>false
def typed(P:Program):Nat->TypeId->D->Prop
 |0,_,_=>False
 |n+1,t,d=>match P.underlying t with
  |some .bool=>∃b,d=.bool b
  |some (.int k)=>∃z,d=.int k z/\(Lit.int k z).wf=true
  |some .string=>∃s,d=.str s/\s.length<=maxLen
  |some (.slice e)=>∃xs,d=.list xs/\xs.length<=maxLen/\∀x∈xs,typed P n e x
  |some (.struct V)=>∃O:List D,d=.agg (O.flatMap D.cells)/\O.length=V.size/\∀(i:Nat)(f:Field)(y:D),V[i]?=some f->O[i]?=some y->typed P n f.type y
  |_=>False
def Reads(w:World)(F:Nat->Prop)(d:D)(cs:List Value):Prop:=
 d.cells.length=cs.length/\(∀u∈cs,cF u=true)/\∀(i:Nat) c u,d.cells[i]?=some c->cs[i]?=some u->aQ w F c u/\c.flat=true
theorem Reads.one{w F d v}(h:aQ w F d v)(J:d.flat=true)(M:d.cells=[d]):Reads w F d [v]:=by
 refine⟨by rw[M];rfl,λu hu=>?_,λi c u E T=>?_⟩
 ·simp at hu;subst hu;exact h.one J
 ·rw[M]at E;cases i with
  |zero=>simp at E T;subst E;subst T;exact⟨h,J⟩
  |succ i=>simp at E
def shaped(d:D)(cs:List Value):Value:=
 match d with
 | .agg _=>.agg cs.toArray
 |_=>cs.headD undef
theorem Reads.rel{w F d cs}(h:Reads w F d cs):aQ w F d (shaped d cs):=by
 obtain⟨E,T,A1⟩:=h;have key:d.flat=true->d.cells=[d]->aQ w F d (cs.headD undef):=by
  intro J M;rw[M]at E A1;match cs,E with
  |[u],_=>exact (A1 0 d u rfl rfl).1
 cases d with
 |agg AM=>exact aQ.rj E T (λi c v M AN=>(A1 i c v M AN).1)
 |_=>exact key rfl rfl
theorem Reads.OY{w F d cs}(h:Reads w F d cs):(shaped d cs).cells.toList=cs:=by
 obtain⟨E,T,A1⟩:=h;have key:d.cells=[d]->(cs.headD undef).cells.toList=cs:=by
  intro M;rw[M]at E;match cs,E,T with
  |[u],_,T=>simp only[List.headD];rw[eI (T u (by simp))]
 cases d with
 |agg AM=>simp[shaped,Value.cells]
 |_=>exact key rfl
theorem IL{w:World}{base:Nat}{a:Addr}{n:Nat}{cs:List Value}(h:w.cells? base a n=some cs):cs.length=n/\∀j,j<n->w.cell? (a.add j)=cs[j]?:=by
 unfold World.cells? at h;split at h
 ·exact⟨by simpa using mapM_some_length h,λj A3=>mapM_some_get h j j (by simp[A3])⟩
 ·cases h
theorem add_add{b off n j:Nat}:(Addr.add (Addr.add ⟨b,off,none⟩ n) j)=⟨b,off+n+j,none⟩:=by
 unfold Addr.add;split<;>split<;>simp_all
theorem GP{w:World}{a:Addr}{c:Value}(h:w.cell? a=some c):a.block<w.heap.size/\a.spot=none:=by
 unfold World.cell? at h;split at h
 ·rename_i hh;refine⟨(acU.1 hh).1,?_⟩;split at h
  ·cases h
  ·rename_i AO;simpa using AO
 ·cases h
theorem DO{P:Program}{w:World}{F:Nat->Prop}{n:Nat}{cs:List Value}{ok:TypeId->Bool}:∀(V:List Field)(o:Nat),IK P ok V o cs.length=true->
 (∀f∈V,ok f.type=true->∃d,typed P n f.type d/\Reads w F d ((cs.drop f.offset).take (P.cellsOf f.type))/\d.cells.length=P.cellsOf f.type)->
 ∃O:List D,O.length=V.length/\(∀(i:Nat)(f:Field)(y:D),V[i]?=some f->O[i]?=some y->typed P n f.type y)/\o<=cs.length/\Reads w F (.agg (O.flatMap D.cells)) (cs.drop o)
 |[],o,U,_=>by
  simp only[IK,beq_iff_eq]at U;subst U;exact⟨[],rfl,λi f y J=>by simp at J,aad _,by simp[D.cells],by simp,λi c u E=>by simp[D.cells]at E⟩
 |f::r,o,U,J=>by
  simp only[IK,Ds,beq_iff_eq]at U;obtain⟨⟨rfl,AA⟩,AP⟩:=U;obtain⟨O,E,T,A1,Z⟩:=DO r _ AP (λAB AQ=>J AB (by simp[AQ]));obtain⟨d,Y,A4,A0⟩:=J f (by simp) AA;refine⟨d::O,by simp[E],λi AB y hi W=>?_,by omega,?_⟩
  ·cases i with
   |zero=>simp at hi W;subst hi;subst W;exact Y
   |succ i=>simp at hi W;exact T i AB y hi W
  ·have AR:cs.drop f.offset=(cs.drop f.offset).take (P.cellsOf f.type)++cs.drop (f.offset+P.cellsOf f.type):=by
    rw[<-aoI,akQ]
   obtain⟨AI,a2,a3⟩:=A4;obtain⟨AS,AT,AU⟩:=Z;have AV:(D.agg ((d::O).flatMap D.cells)).cells=d.cells++(D.agg (O.flatMap D.cells)).cells:=by simp[D.cells]
   rw[AR];unfold Reads;rw[AV];refine⟨by simp only[aam,AI,AS],λu hu=>?_,λi c u M hu=>?_⟩
   ·rcases aa0.1 hu with hu|hu
    ·exact a2 u hu
    ·exact AT u hu
   ·by_cases hi:i<d.cells.length
    ·rw[aaF hi]at M;rw[aaF (by omega)]at hu;exact a3 i c u M hu
    ·rw[abI (by omega)]at M;rw[abI (by omega)]at hu;rw[<-AI]at hu;exact AU _ c u M hu
section
variable {H:Type} {enc:TypeId×Value->H} {P:Program} {w:World} {base:Nat} {sp:Nat->Bool} {held:Bool}
theorem DP:∀(n:Nat)(m:Nat)(t:TypeId)(cs:List Value)(x:DataW H×List MemPlace),uL P n t=true->DataW.trod enc P w base sp held m t cs=some x->
 ∃d,typed P n t d/\Reads w (λ_=>False) d cs/\d.cells.length=P.cellsOf t
 |0,_,_,_,_,I,_=>by cases I
 |n+1,m,t,cs,x,I,A'=>by
  simp only[uL]at I;simp only[typed];cases U:P.underlying t with
  |none=>rw[U]at I;cases I
  |some u=>
   rw[U]at I;cases u with
   |bool=>
    obtain⟨b,rfl,_⟩:=DataW.trod_bool U A';exact⟨.bool b,⟨b,rfl⟩,Reads.one (.bool b) rfl rfl,by simp at I;simp[D.cells,I]⟩
   |int k=>
    obtain⟨z,rfl,_,hw⟩:=DataW.trod_int U A';exact⟨.int k z,⟨z,rfl,hw⟩,Reads.one (.int k z) rfl rfl,by simp at I;simp[D.cells,I]⟩
   |string=>
    obtain⟨s,rfl,_,hw⟩:=DataW.trod_string U A';exact⟨.str s.data.toList,⟨_,rfl,by simpa using hw⟩,Reads.one (.str s _ rfl) rfl rfl,by simp at I;simp[D.cells,I]⟩
   |slice e=>
    simp only[Ds,beq_iff_eq,aak]at I;obtain⟨⟨E,T⟩,A1⟩:=I;rcases DataW.trod_slice U A' with ⟨rfl,_⟩|⟨a,len,cap,elems,rest,m',rfl,rfl,_,Af,AW,Ag,Ah,A5,_⟩
    ·exact⟨.list [],⟨[],rfl,by simp,by simp⟩,Reads.one (.nil none 0 (λ_=>rfl)) rfl rfl,by simp[D.cells,E]⟩
    ·have AX:∀i,∃p:D×Value,i<len->typed P n e p.1/\aQ w (λ_=>False) p.1 p.2/\p.1.size=P.cellsOf e/\a.block<w.heap.size/\a.spot=none/\
      ∀j c,p.2.cells[j]?=some c->w.cell? ⟨a.block,a.off+i*P.cellsOf e+j,none⟩=some c:=by
      intro i;by_cases hi:i<len
      ·have Z:=A5 i hi;have A6:∃y,elems[i]?=some y:=⟨elems[i]'(by omega),by simp[show i<elems.length by omega]⟩
       obtain⟨y,W⟩:=A6;rw[W]at Z;simp only[aib]at Z;obtain⟨AC,AY,AZ⟩:=Z;obtain⟨d,Y,A4,A0⟩:=DP n m' e AC y T AZ;obtain⟨g1,g2⟩:=IL AY;have g3:a.block<w.heap.size/\a.spot=none:=by
        have AD:∃i0,i0<len/\i0=0:=⟨0,by omega,rfl⟩;have AE:=A5 0 (by omega);have A_:∃y,elems[0]?=some y:=⟨elems[0]'(by omega),by simp[show 0<elems.length by omega]⟩
        obtain⟨Ai,Aa⟩:=A_;rw[Aa]at AE;simp only[aib]at AE;obtain⟨AF,Ab,_⟩:=AE;obtain⟨Aj,Ac⟩:=IL Ab;have A2:=Ac 0 (by omega);have A7:∃c,AF[0]?=some c:=⟨AF[0]'(by omega),by simp[show 0<AF.length by omega]⟩
        obtain⟨c,M⟩:=A7;rw[M]at A2;have A8:=GP A2;simpa [Addr.add]using A8
       refine⟨⟨d,shaped d AC⟩,λ_=>⟨Y,A4.rel,by rw[<-D.hU];exact A0,g3.1,g3.2,λj c A3=>?_⟩⟩;have A2:=A4.OY;have A7:AC[j]?=some c:=by rw[<-A2];simpa using A3
       have Ad:j<P.cellsOf e:=by
        have:=(D1.1 A7).1;omega
       have A8:=g2 j Ad;obtain⟨AJ,ao,AG⟩:=a;obtain rfl:AG=none:=g3.2;rw[add_add]at A8;rw[A8];exact A7
      ·exact⟨⟨.bool false,undef⟩,λh=>absurd h hi⟩
     obtain⟨f,J⟩:=af8 AX;refine⟨.list ((List.range len).map λi=>(f i).1),⟨_,rfl,by simp;omega,λx A'=>?_⟩,Reads.one ?_ rfl rfl,by simp[D.cells,E]⟩
     ·simp only[abV,aca]at A';obtain⟨i,hi,rfl⟩:=A';exact (J i hi).1
     ·by_cases A0:len=0
      ·subst A0;exact .nil (some a) cap (λh=>by cases h)
      ·have AD:=J 0 (by omega);obtain⟨AJ,ao,AG⟩:=a;obtain rfl:AG=none:=AD.2.2.2.2.1;have AH:((List.range len).map λi=>(f i).1).length=len:=by simp
       have:=aQ.list (w:=w) (F:=λ_=>False) ((List.range len).map λi=>(f i).1) AJ ao cap (P.cellsOf e) (λi=>(f i).2) (by rw[AH];exact AW) AD.2.2.2.1 (λh=>h)
        (λd Y=>by
         simp only[abV,aca]at Y;obtain⟨i,hi,rfl⟩:=Y;exact (J i hi).2.2.1)
        (λi d Y=>by
         simp only[ab6,aax]at Y;obtain⟨Ak,Ae,rfl⟩:=Y;have:=D1.1 Ae;obtain⟨AK,AL⟩:=this;simp at AK AL;subst AL;exact (J _ AK).2.1)
        (λi j c hi A3=>by
         rw[AH]at hi;exact (J i hi).2.2.2.2.2 j c A3)
       rw[AH]at this;exact this
   |struct V=>
    obtain⟨xs,m',rfl,_,A0,Al,A5⟩:=DataW.trod_struct U A';simp only at I;rw[<-A0]at I;obtain⟨O,E,T,_,Z⟩:=DO (n:=n) (w:=w) (F:=λ_=>False) V.toList 0 I (λf J AA=>by
     obtain⟨i,hi,he⟩:=an4.1 J;have A6:=A5 i f (by simp at hi he;simp[hi,he]);have A2:∃y,xs[i]?=some y:=⟨xs[i]'(by simp at hi;omega),by simp[show i<xs.length by simp at hi;omega]⟩
     obtain⟨y,W⟩:=A2;rw[W]at A6;exact DP n m' f.type _ y AA A6)
    refine⟨.agg (O.flatMap D.cells),⟨O,rfl,by simpa using E,λi f y hi W=>T i f y (by simpa using hi) W⟩,by simpa using Z,?_⟩;have:=Z.1;rw[this];simpa using A0
   |_=>cases I
end
section
variable {H:Type} {enc:TypeId×Value->H} {P:Program} {w:World} {base:Nat} {sp:Nat->Bool} {held:Bool}
theorem aiZ{n:Nat}{t:TypeId}{v:Value}{d:DataW H}{ps:List MemPlace}{b0:Nat}(T:uL P n t=true)(M:Value.okWide P w .any b0 t v)(h:DataW.Trod enc P w base sp held t v d ps):
 ∃x,typed P n t x/\aQ w (λ_=>False) x v:=by
 obtain⟨m,hm⟩:=h;obtain⟨x,E,AK,_⟩:=DP n m t _ _ T hm;refine⟨x,E,?_⟩;have U:=AK.rel;cases n with
 |zero=>cases T
 |succ n=>
  simp only[uL]at T;simp only[typed]at E;cases J:P.underlying t with
  |none=>rw[J]at T;cases T
  |some u=>
   rw[J]at T E;cases u with
   |bool=>obtain⟨b,rfl⟩:=okWide_bool J M;obtain⟨y,rfl⟩:=E;exact U
   |int k=>obtain⟨b,rfl⟩:=okWide_int J M;obtain⟨y,rfl,_⟩:=E;exact U
   |string=>obtain⟨b,rfl⟩:=okWide_string J M;obtain⟨y,rfl,_⟩:=E;exact U
   |slice e=>obtain⟨a,len,cap,rfl⟩:=okWide_slice J M;obtain⟨y,rfl,_⟩:=E;exact U
   |struct A_=>
    simp only[Value.okWide,J]at M;obtain⟨cs,rfl,_⟩:=M;obtain⟨Aa,rfl,_⟩:=E;simpa [shaped,Value.cells]using U
   |_=>cases T
theorem OZ{n b0:Nat}:∀{ts:List TypeId}{vs:List Value}{I:List (DataW H)}{ps:List MemPlace},DataW.TrodAll enc P w base sp held ts vs I ps->(∀t∈ts,uL P n t=true)->
 (∀(j:Nat) t v,ts[j]?=some t->vs[j]?=some v->Value.okWide P w .any b0 t v)->
 ∃xs:List D,xs.length=vs.length/\xs.length=ts.length/\(∀(i:Nat) t x,ts[i]?=some t->xs[i]?=some x->typed P n t x)/\∀(i:Nat) x v,xs[i]?=some x->vs[i]?=some v->aQ w (λ_=>False) x v
 |[],[],[],_,_,_,_=>⟨[],rfl,rfl,λi t x h=>by simp at h,λi x v h=>by simp at h⟩
 |t::ts,v::vs,d::I,ps,h,T,M=>by
  obtain⟨p,q,U,A1,_⟩:=h;obtain⟨x,E,A2⟩:=aiZ (T t (by simp)) (M 0 t v rfl rfl) U;obtain⟨xs,g1,g2,g3,g4⟩:=OZ A1 (λt J=>T t (by simp[J])) (λj t v V Y=>M (j+1) t v (by simpa using V) (by simpa using Y));refine⟨x::xs,by simp[g1],by simp[g2],λi AL A8 V Y=>?_,λi A8 AM V Y=>?_⟩
  ·cases i with
   |zero=>simp at V Y;subst V;subst Y;exact E
   |succ i=>simp at V Y;exact g3 i AL A8 V Y
  ·cases i with
   |zero=>simp at V Y;subst V;subst Y;exact A2
   |succ i=>simp at V Y;exact g4 i A8 AM V Y
 |[],_::_,_,_,h,_,_=>by cases h
 |[],[],_::_,_,h,_,_=>by cases h
 |_::_,[],_,_,h,_,_=>by cases h
 |_::_,_::_,[],_,h,_,_=>by cases h
theorem Ca(A0:laidOutB P=true){W A':World}(O:Below W.heap.size W A'):∀{ts:List TypeId}{vs:List Value}{I:List (DataW H)}{ps:List MemPlace},DataW.TrodAll enc P W 0 (λ_=>true) true ts vs I ps->
 (∀t∈ts,P.readableRec t=true/\t<P.types.size)->(∀x∈ps,x.block<W.heap.size)->DataW.TrodAll enc P A' 0 (λb=>decide (b<W.heap.size)) true ts vs I ps
 |[],[],[],_,h,_,_=>h
 |t::ts,v::vs,d::I,ps,h,T,A7=>by
  obtain⟨p,q,U,A1,rfl⟩:=h;exact⟨p,q,Below.trod A0 (T t (by simp)).1 (T t (by simp)).2 U O (λx E=>A7 x (by simp[E])),Ca A0 O A1 (λt J=>T t (by simp[J])) (λx E=>A7 x (by simp[E])),rfl⟩
 |[],_::_,_,_,h,_,_=>by cases h
 |[],[],_::_,_,h,_,_=>by cases h
 |_::_,[],_,_,h,_,_=>by cases h
 |_::_,_::_,[],_,h,_,_=>by cases h
end
section
variable {P:Program} {n:Nat} {t:TypeId} {d:D}
theorem O0(J:P.underlying t=some .string)(h:typed P (n+1) t d):∃s,d=.str s/\s.length<=maxLen:=by simpa only[typed,J]using h
end
def aoq(X:Ctx):Bool:=
 (List.range X.P.funcs.size).all (λg=>match X.P.funcs[g]? with|some fn=>fn.name != "runtime.NumGoroutine" &&(match fn.body with|some c=>fj X g fn.ntmps c|none=>true)|none=>true)&&X.P.follows .mixedOrders&&X.ov.isNone
def tW(X:Ctx)(g:FuncId)(h:List AV->Option AV):Prop:=iK X.P g=true/\∀(A3:List AV)(a:AV),h A3=some a->∀(φ:bP)(F:Nat->Prop)(w:World)(vs:Array Value),fF w F X.gl->(∀b,F b->b<w.heap.size)->A3.length=vs.size->
 (∀(i:Nat) x v,A3[i]?=some x->vs[i]?=some v->aH φ w F x v)->Calls X.P g vs w λe w'=>∃v,e=.returned v/\Below w.heap.size w w'/\aH φ w' F a v
theorem tW.lift{X:Ctx}{g:FuncId}{h:List D->Option D}(hh:iK X.P g=true/\∀(I:List D) (d:D),h I=some d->∀(F:Nat->Prop) (w:World) (vs:Array Value),fF w F X.gl->(∀b,F b->b<w.heap.size)->I.length=vs.size->
 (∀(i:Nat) x v,I[i]?=some x->vs[i]?=some v->aQ w F x v)->Calls X.P g vs w λe w'=>∃v,e=.returned v/\Below w.heap.size w w'/\aQ w' F d v):tW X g (qT h):=by
 refine⟨hh.1,λA3 a A4 φ F w vs AN AO A0 A2=>?_⟩;unfold qT at A4;cases A9:toDs A3 with
 |none=>rw[A9]at A4;cases A4
 |some I=>
  rw[A9]at A4;obtain⟨d,AA,rfl⟩:=aax.1 A4;have he:=toDs_eq A9;subst he;refine (hh.2 I d AA F w vs AN AO (by simpa using A0) (λi x v E M=>?_)).mono ?_
  ·have:=A2 i (.d x) v (by simp[E]) M;cases this with|d _ _ h=>exact h
  ·rintro e w' ⟨v,rfl,O,M⟩;exact⟨v,rfl,O,.d _ _ M⟩
theorem lN.of{X:Ctx}(h:aoq X=true)(A5:∀g h,X.BZ g=some h->tW X g h):lN X:=by
 simp only[aoq,Ds,abX,aca]at h;have key:∀(g:FuncId)(fn:Func),X.P.funcs[g]?=some fn->fn.name≠ "runtime.NumGoroutine" /\(match fn.body with|some c=>fj X g fn.ntmps c|none=>true)=true:=by
  intro g fn Z;have U:=h.1.1 g (acU.1 Z).1;rw[Z]at U;simpa using U
 refine⟨by simpa using h.2,λg fn Z=>(key g fn Z).1,λg fn c Z O=>?_,h.1.2,A5⟩;have:=(key g fn Z).2;rw[O]at this;exact this
def fr0:Fr:=⟨λ_=>False,[]⟩
theorem ab2{X:Ctx}(AB:lN X){f:FuncId}{b:Bool}{xs:List D}(AP:ag X f (xs.map .d) []=some (.ret (.d (.bool b)),[])){W:World}{args:Array Value}(A0:xs.length=args.size)
 (A2:∀(i:Nat) x v,xs[i]?=some x->args[i]?=some v->aQ W (λ_=>False) x v) (Z:fF W (λ_=>False) X.gl):
 Calls X.P f args W λe A'=>e=.returned (.bool b)/\Below W.heap.size W A':=by
 have h:=(adT AB f _ _ _ _ AP).2;have AG:∀b,Fo fr0 (λ_=>none) (ew 0 []) b->False:=by
  intro b O;rcases O with O|⟨e,he,_⟩
  ·exact O
  ·simp[ew]at he
 refine (h (λ_=>none) fr0 W args ⟨by simp[ew],λk L AQ=>by simp at AQ,λe he=>by simp[ew]at he,λe he=>by simp[ew]at he,λb ⟨e,he,_⟩=>by simp[ew]at he,λb O=>O.elim⟩
  (Z.mono (λ_ _ _=>rfl) (aad _) (λb _ O=>AG b O)) (by simpa using A0) (λi x v E M=>?_)).mono ?_
 ·simp only[ab6,aax]at E;obtain⟨d,AA,rfl⟩:=E;exact .d d v ((A2 i d v AA M).mono (λ_ _ _=>rfl) (aad _) (λb _ O=>AG b O))
 ·rintro e A' ⟨φ',m',out,⟨rfl,rfl⟩,hm,A6,A5⟩;refine⟨?_,A6.os,A6.tape,A6.output,A6.size,λk AR=>A6.Ch k AR (λ⟨e,he,_⟩=>by simp[ew]at he)⟩;cases e with
  |returned v=>
   simp only[qm]at A5;cases A5 with
   |d x v h=>cases h;rfl
  |_=>exact A5.elim
section
variable {H:Type} {enc:TypeId×Value->H}
theorem O1{X:Ctx}(AB:lN X){f:FuncId}{fn:Func}{s:ChangeSpec}{apart fresh handsOn:Bool}{n:Nat}{tb:TypeId}
 (AS:laidOutB X.P=true) (AC:(fn.params.toList.all λt=>X.P.readableRec t&&decide (t<X.P.types.size)&&uL X.P n t)=true)
 (AT:fn.resultTypes=#[tb]) (AU:X.P.underlying tb=some .bool) (AH:s.vars=[])
 (AW:∀I:List (DataW H),I.length=fn.params.size->s.fn H I={results:=[.lit (.bool true)],args:=I})
 {W:World} {base:Nat} {args:Array Value} {I gs:List (DataW H)} {before:List MemPlace}
 (AX:∀(j:Nat) t v,fn.params[j]?=some t->args[j]?=some v->Value.okWide X.P W .any base t v)
 (AI:DataW.Whole enc X.P fn.params.toList s.vars apart W args.toList I gs before) (Z:fF W (λ_=>False) X.gl)
 (AY:∀xs:List D,xs.length=fn.params.size->(∀(i:Nat) t x,fn.params[i]?=some t->xs[i]?=some x->typed X.P n t x)->ag X f (xs.map .d) []=some (.ret (.d (.bool true)),[])):
 Calls X.P f args W λe A'=>∃v,e=.returned v/\s.post enc X.P fn apart fresh handsOn false W args v A':=by
 have AJ:=AI;obtain⟨p,q,AD,AE,rfl,Ab,Ac⟩:=AI;rw[AH]at AE;obtain⟨rfl,rfl⟩:gs=[]/\q=[]:=by
  cases gs with
  |nil=>exact⟨rfl,AE⟩
  |cons g r=>exact absurd AE (by intro h;cases h)
 simp only[abX,Ds,aak]at AC;obtain⟨xs,U,A1,V,Y⟩:=OZ (n:=n) (b0:=base) AD (λt J=>(AC t J).2) (λj t v J M=>AX j t v (by simpa using J) (by simpa using M));have AZ:=trodAll_length AD;refine (ab2 AB (AY xs (by simpa using A1) (λi t x J E=>V i t x (by simpa using J) E)) (by simpa using U) (λi x v E M=>Y i x v E (by simpa using M)) Z).mono ?_;rintro e A' ⟨rfl,O⟩;have A7:∀x∈p,x.block<W.heap.size:=λx E=>by simpa using AJ.lt x (by simpa using E)
 have AF:s.fn H (I++[])={results:=[.lit (.bool true)],args:=I}:=by
  rw[afV];exact AW I (by simpa using AZ.2)
 refine⟨_,rfl,I,[],p++[],[],p,[],AJ,?_,?_,?_,O.frame _,λh=>by cases h⟩
 ·rw[AF,AT];exact trodAll_mk1 (shut_bool AU true)
 ·rw[AF];exact Ca AS O AD (λt J=>(AC t J).1) A7
 ·rw[AF,AH];rfl
end
mutual
def cM:D->Nat
 | .str s=>s.length+1
 | .list xs=>aV xs+1
 | .agg cs=>aV cs+1
 |_=>1
def aV:List D->Nat
 |[]=>0
 |x::r=>cM x+aV r
end
theorem kg:∀l r:List D,aV (l++r)=aV l+aV r
 |[],r=>by simp[aV]
 |x::l,r=>by simp[aV,kg l r,abY]
theorem aor(x:D):1<=cM x:=by cases x<;>simp[cM]
theorem pw:∀l:List D,l.length<=aV l
 |[]=>by simp
 |x::r=>by have:=pw r;have:=aor x;simp only[aV,aan];omega
theorem O2:∀{l:List D}{x:D},x∈l->cM x<=aV l
 |y::r,x,h=>by
  rcases aaC.1 h with rfl|h
  ·simp only[aV];omega
  ·have:=O2 h;simp only[aV];omega
section
variable {H:Type} {enc:TypeId×Value->H} {P:Program} {w:World} {base:Nat} {sp:Nat->Bool} {held:Bool}
end
section
variable {H:Type} {enc:TypeId×Value->H}
end
end Go.Am
end
section
namespace Go.Am
open Go Go.Proofs
variable [Inhabited bV]
section
variable {α β:Type}
def Po(r:PM α)(Q:α->PS->Prop):Prop:=match r with
 | .ok a s=>Q a s
 |_=>True
theorem Po.bind{r:PM α}{k:α->PS->PM β}{Q:α->PS->Prop}{A7:β->PS->Prop}(h:Po r Q)(U:∀a s,Q a s->Po (k a s) A7):Po (r.bind k) A7:=by
 cases r with
 |ok a s=>exact U a s h
 |bad e s=>exact trivial
 |out=>exact trivial
theorem Po.mono{r:PM α}{Q A7:α->PS->Prop}(h:Po r Q)(U:∀a s,Q a s->A7 a s):Po r A7:=by
 cases r with
 |ok a s=>exact U a s h
 |bad e s=>exact trivial
 |out=>exact trivial
theorem Po.iff{c:Prop}[Decidable c]{a b:PM α}{Q:α->PS->Prop}(h:c->Po a Q)(AG:¬c->Po b Q):Po (if c then a else b) Q:=by
 split
 ·exact h ‹_›
 ·exact AG ‹_›
theorem Po.fail{e:Int}{t:bI}{s:PS}{Q:α->PS->Prop}:Po (lO e t s:PM α) Q:=trivial
end
structure Gx(k:Nat)(s E:PS):Prop where
 vars:E.vars=s.vars
 at_:s.at_+k<=E.at_
theorem Gx.refl{s:PS}:Gx 0 s s:=⟨rfl,aad _⟩
theorem Gx.trans{a b:Nat}{s s1 s2:PS}(h:Gx a s s1)(k:Gx b s1 s2):Gx (a+b) s s2:=⟨k.vars.trans h.vars,by have:=h.at_;have:=k.at_;omega⟩
theorem Gx.le{a b:Nat}{s s1:PS}(h:Gx a s s1)(D:b<=a):Gx b s s1:=⟨h.vars,by have:=h.at_;omega⟩
section
variable {L:List bI} (Y:∀t∈L,DN t)
theorem kY{s:PS}:Po (jG L s) λt E=>E=s/\L[s.at_]?=some t:=by
 unfold jG;cases h:L[s.at_]? with
 |none=>exact trivial
 |some t=>exact⟨rfl,rfl⟩
theorem tX{s:PS}{w:Tx}:Po (isS L w s) λb E=>E=s/\∃t:bI,L[s.at_]?=some t/\b=xq t w:=
 kY.bind λt E ⟨H,I⟩=>⟨H,t,I,rfl⟩
theorem O3{s:PS}:∀ws:List Tx,Po (anyS L ws s) λb E=>E=s/\(b=true->∃(t:bI)(w:Tx),L[s.at_]?=some t/\w∈ws/\xq t w=true)
 |[]=>⟨rfl,by simp⟩
 |w::r=>by
  unfold anyS;refine tX.bind λb E ⟨H,t,I,T⟩=>?_;subst H;refine Po.iff (λD=>⟨rfl,λ_=>⟨t,w,I,by simp,by rw[<-T];exact D⟩⟩) λD=>?_;exact (O3 r).mono λb E ⟨H,I⟩=>⟨H,λD=>by obtain⟨t,w',a,b,c⟩:=I D;exact⟨t,w',a,by simp[b],c⟩⟩
theorem tv{s:PS}:Po (lP L s) λt E=>L[s.at_]?=some t/\Gx 0 s E/\(t.kind≠0->Gx 1 s E):=by
 unfold lP;refine kY.bind λt E ⟨H,I⟩=>?_;subst H;refine⟨I,?_⟩;split
 ·rename_i AH;exact⟨.refl,λU=>absurd AH U⟩
 ·exact⟨⟨rfl,by simp⟩,λ_=>⟨rfl,by simp⟩⟩
theorem Mr{t:bI}{w:Tx}(h:xq t w=true):t.kind≠0:=by
 simp[xq]at h;omega
theorem en{s:PS}{w:Tx}:Po (eR L w s) λb E=>(b=true->Gx 1 s E)/\(b=false->E=s):=by
 unfold eR;refine tX.bind λb E ⟨H,t,I,T⟩=>?_;subst H;refine Po.iff (λD=>?_) λD=>⟨(λh=>nomatch h),λ_=>rfl⟩;refine tv.bind λu s1 ⟨M,W,J⟩=>?_;rw[I]at M;cases M;exact⟨λ_=>J (Mr (by rw[<-T];exact D)),(λh=>nomatch h)⟩
theorem dY{s:PS}{w:Tx}:Po (dH L w s) λ_ E=>Gx 1 s E:=by
 unfold dH;refine en.bind λb E ⟨H,I⟩=>?_;refine Po.iff (λD=>H D) λD=>kY.bind λt s1 _=>Po.fail
include Y
theorem lB{s:PS}{k:Int}(U:k≠0):Po (gQ L k s) λt E=>Gx 1 s E/\t.kind=k/\DN t/\L[s.at_]?=some t:=by
 unfold gQ;refine kY.bind λt E ⟨H,I⟩=>?_;subst H;refine Po.iff (λD=>?_) λD=>kY.bind λt s1 _=>Po.fail;refine tv.mono λu s1 ⟨M,W,J⟩=>?_;rw[I]at M;cases M;exact⟨J (by rw[D];exact U),D,Y _ (aay I),I⟩
omit Y
theorem Ms{s:PS}:Po (Dy L s) λ_ E=>Gx 0 s E/\E.at_=s.at_:=by
 unfold Dy;exact Po.iff (λ_=>kY.bind λt s1 _=>Po.fail) λ_=>⟨⟨rfl,aad _⟩,rfl⟩
theorem IM{s:PS}:Po (zA s) λ_ E=>Gx 0 s E:=⟨rfl,aad _⟩
include Y
theorem DQ{s:PS}:Po (mW L s) λn E=>Gx 1 s E/\ -9223372036854775807<=n/\n<=9223372036854775807:=by
 unfold mW;refine en.bind λb s1 ⟨H,A8⟩=>Po.iff (λD=>?_) λD=>?_
 ·refine (lB Y (by decide)).bind λt s2 ⟨I,U,A2,_⟩=>?_;have O:=A2.num U;have hw:wr (-t.n)= -t.n:=IntWalk.i64_in _ (by omega);refine⟨((H D).trans I).le (by omega),?_⟩;rw[hw];omega
 ·have:=A8 (by simpa using D);subst this;refine (lB Y (by decide)).bind λt s2 ⟨I,U,A2,_⟩=>?_;have O:=A2.num U;exact⟨I,by omega,by omega⟩
omit Y
structure Xo(b:Nat)(s:PS)(x:Ex)(E:PS):Prop where
 vars:E.vars=s.vars
 fit:bn x=true
 lit:dG x=true
 w:cM (bK x)+100*s.at_<=100*E.at_+b
theorem Xo.pre{k b:Nat}{s s1 s2:PS}{x:Ex}(h:Xo b s1 x s2)(A9:Gx k s s1):Xo b s x s2:=⟨h.vars.trans A9.vars,h.fit,h.lit,by have:=h.w;have:=A9.at_;omega⟩
theorem Xo.post{k b:Nat}{s s1 s2:PS}{x:Ex}(h:Xo b s x s1)(A9:Gx k s1 s2):Xo b s x s2:=⟨A9.vars.trans h.vars,h.fit,h.lit,by have:=h.w;have:=A9.at_;omega⟩
theorem nE{s:Tx}(h:fK s=true):s.length<=16:=by
 simp only[fK,Ds,aak]at h;exact h.2.1
theorem ai0{op line:Int}{x y:Ex}(A5:8<=op/\op<=21)(A0:bn x=true)(AC:bn y=true):bn (gK op [] [x,y] line)=true:=by
 have e:eV op=2:=by unfold eV;rw[aab (by omega),aat (by omega)]
 simp only[gK,bn,bQ,A0,AC,e,aan,aaw];rw[aab (by omega),aab (by omega),aop (by omega)];rfl
theorem ai1{op line:Int}{x y:Ex}(A0:dG x=true)(AC:dG y=true):dG (gK op [] [x,y] line)=true:=by
 simp only[gK,dG,dB,A0,AC];rfl
theorem ai2{op line:Int}{x:Ex}(A5:op=6\/op=7)(A0:bn x=true):bn (gK op [] [x] line)=true:=by
 have e:eV op=1:=by unfold eV;rw[aat (by omega)]
 simp only[gK,bn,bQ,A0,e,aan,aaw];rw[aab (by omega),aab (by omega),aop (by omega)];rfl
theorem JM{op line:Int}{Z:Tx}{x:Ex}(A0:dG x=true):dG (gK op Z [x] line)=true:=by
 simp only[gK,dG,dB,A0];rfl
theorem UJ{Z:Tx}{line:Int}{x:Ex}(O:fK Z=true)(A0:bn x=true):bn (gK 4 Z [x] line)=true:=by
 simp only[gK,bn,bQ,A0,O];rfl
theorem UK{t:bI}(O:fK t.text=true):bn (qU t)=true:=by
 simp only[qU,bn,bQ,O];rfl
theorem UL{t:bI}:dG (qU t)=true:=by simp only[qU,dG,dB];rfl
theorem ai3{Z fl:Tx}{line:Int}(O:fK Z=true)(A3:fK fl=true):bn (.mk 5 0 Z fl [] line)=true:=by
 simp only[bn,bQ,O,A3];rfl
theorem ai4{n line:Int}(h:0<=n):bn (.mk 1 n [] [] [] line)=true:=by
 simp only[bn,bQ];rw[aop (by omega)];rfl
theorem ai5{n line:Int}(h:0<=n/\n<=9223372036854775807):dG (.mk 1 n [] [] [] line)=true:=by
 simp only[dG,dB];rw[af9 (by omega)];rfl
theorem IN{op line:Int}{Z:Tx}{l:List Ex}:cM (bK (gK op Z l line))=7+Z.length+aV (dA l):=by
 simp only[gK,bK,cM,aV,aaw];omega
theorem arT:∀n,n<6->∀w∈B4.getD n [],8<=FP w/\FP w<=21:=by decide
theorem aeL{t:bI}{w:Tx}(h:xq t w=true):t.text=w:=by
 simp[xq]at h;exact h.2
structure PoE(L:List bI)(f:Nat):Prop where
 level:∀(n:Nat)(s:PS),Po (jH L f n s) (Xo 0 s)
 loop:∀(n:Nat)(x:Ex)(s:PS),n<6->bn x=true->dG x=true->Po (mX L f n x s) (Xo (cM (bK x)) s)
 unary:∀s:PS,Po (jI L f s) (Xo 0 s)
 unop:∀(op:Int)(t:bI)(s:PS),(op=6\/op=7)->L[s.at_]?=some t->t.kind≠0->Po (pV L f op t s) (Xo 0 s)
 expr:∀s:PS,Po (gn L f s) (Xo 0 s)
 index:∀s:PS,Po (jJ L f s) (Xo 0 s)
 mY:∀s:PS,Po (jj L f s) (Xo 0 s)
include Y
theorem poE:∀f,PoE L f
 |0=>⟨λ_ _=>trivial,λ_ _ _ _ _ _=>trivial,λ_=>trivial,λ_ _ _ _ _ _=>trivial,λ_=>trivial,λ_=>trivial,λ_=>trivial⟩
 |f+1=>by
  have ih:=poE f;refine⟨?_,?_,?_,?_,?_,?_,?_⟩
  ·intro n s;unfold jH;refine Po.iff (λA'=>ih.unary s) λA'=>Po.iff (λO=>?_) λ_=>trivial;refine (ih.level (n+1) s).bind λx s1 H=>?_;refine (ih.loop n x s1 O H.fit H.lit).mono λy s2 I=>?_;exact⟨I.vars.trans H.vars,I.fit,I.lit,by have:=H.w;have:=I.w;omega⟩
  ·intro n x s O A3 AE;unfold mX;refine (O3 _).bind λb s1 ⟨e,H⟩=>?_;subst e;refine Po.iff (λD=>?_) λD=>⟨rfl,A3,AE,by omega⟩;obtain⟨t,w,A2,hm,hw⟩:=H D;refine tv.bind λu s2 ⟨M,W,J⟩=>?_;rw[A2]at M;cases M;have J:=J (Mr hw);refine (ih.level (n+1) s2).bind λy A1 T=>?_;have A5:=arT n O w hm;rw[<-aeL hw]at A5;have V:=ai0 (line:=t.line) A5 A3 T.fit;have A6:=ai1 (op:=FP t.text) (line:=t.line) AE T.lit;have A':cM (bK (gK (FP t.text) [] [x,y] t.line))=7+cM (bK x)+cM (bK y):=by
    rw[IN];simp only[dA,aV,aaw];omega
   have AA:=J.at_;have a2:=T.w;refine Po.iff (λ_=>⟨T.vars.trans J.vars,V,A6,by omega⟩) λ_=>(ih.loop n _ A1 O V A6).mono λz AB A4=>?_;exact⟨A4.vars.trans (T.vars.trans J.vars),A4.fit,A4.lit,by have:=A4.w;omega⟩
  ·intro s;unfold jI;refine kY.bind λt s1 ⟨e,M⟩=>?_;subst e;refine tX.bind λb s2 ⟨e,t2,W,J⟩=>?_;subst e;rw[M]at W;cases W;refine Po.iff (λD=>ih.unop 6 t s2 (.inl rfl) M (Mr (by rw[<-J];exact D))) λD=>?_;refine tX.bind λb A1 ⟨e,t2,W,J⟩=>?_;subst e;rw[M]at W;cases W;exact Po.iff (λD=>ih.unop 7 t A1 (.inr rfl) M (Mr (by rw[<-J];exact D))) λD=>ih.mY A1
  ·intro op t s A5 A2 U;unfold pV;refine Ms.bind λ_ s1 ⟨H,AI⟩=>tv.bind λu s2 ⟨M,W,J⟩=>?_;rw[AI,A2]at M;cases M;have J:=J U;refine (ih.unary s2).bind λx A1 T=>IM.bind λ_ AB V=>?_;have a0:=H.at_;have AA:=J.at_;have a2:=T.w;have a3:=V.at_;refine⟨V.vars.trans (T.vars.trans (J.vars.trans H.vars)),ai2 A5 T.fit,JM T.lit,?_⟩;rw[IN];simp only[dA,aV,aaw];omega
  ·intro s;unfold gn;exact ih.level 0 s
  ·intro s;unfold jJ;refine Ms.bind λ_ s1 ⟨H,_⟩=>dY.bind λ_ s2 I=>(ih.expr s2).bind λx A1 T=>dY.bind λ_ AB V=>IM.bind λ_ AD A6=>?_;exact ((((T.pre I).pre H).post V).post A6)
  ·intro s;unfold jj;refine kY.bind λt s1 ⟨e,M⟩=>?_;subst e;have AJ:=Y t (aay M);refine Po.iff (λU=>?_) λU=>?_
   ·refine tv.bind λu s2 ⟨W,J,AK⟩=>?_;rw[M]at W;cases W;have O:=AJ.num U;have AA:=(AK (by rw[U];decide)).at_;refine⟨J.vars,ai4 O.1,ai5 O,?_⟩;simp only[bK,dA,cM,aV,aaw];omega
   refine en.bind λb s2 ⟨H,A8⟩=>Po.iff (λD=>?_) λD=>?_
   ·have AA:=(H D).at_;refine⟨(H D).vars,rfl,rfl,?_⟩;simp only[bK,dA,cM,aV,aaw];omega
   have:=A8 (by simpa using D);subst this;refine en.bind λb s2 ⟨H,A8⟩=>Po.iff (λD=>?_) λD=>?_
   ·have AA:=(H D).at_;refine⟨(H D).vars,rfl,rfl,?_⟩;simp only[bK,dA,cM,aV,aaw];omega
   have:=A8 (by simpa using D);subst this;refine tX.bind λb A1 ⟨e,t2,W,J⟩=>?_;subst e;refine Po.iff (λD=>?_) λD=>?_
   ·refine Ms.bind λ_ s1 ⟨H,_⟩=>tv.bind λu s2 ⟨q1,q2,q3⟩=>(ih.expr s2).bind λx A1 T=>dY.bind λ_ AB V=>IM.bind λ_ AD A6=>?_;exact ((((T.pre q2).pre H).post V).post A6)
   refine (lB Y (by decide)).bind λv AB ⟨V,AL,AM,AF⟩=>?_;rw[M]at AF;cases AF;have O:=AM.name AL;have AR:=nE O;have AA:=V.at_;refine tX.bind λb AD ⟨e,_⟩=>?_;subst e;refine Po.iff (λD=>(ih.index AD).bind λx AN A'=>?_) λD=>?_
   ·have a2:=A'.w;refine⟨A'.vars.trans V.vars,UJ O A'.fit,JM A'.lit,?_⟩;rw[IN];simp only[dA,aV];omega
   refine en.bind λb AN ⟨A',AO⟩=>Po.iff (λD=>(lB Y (by decide)).bind λu AS ⟨A4,AP,AQ,_⟩=>?_) λD=>?_
   ·have A3:=AQ.name AP;have AT:=nE A3;have a2:=(A' D).at_;have a3:=A4.at_;refine⟨A4.vars.trans ((A' D).vars.trans V.vars),ai3 O A3,rfl,?_⟩;simp only[bK,dA,cM,aV,aaw];omega
   have:=AO (by simpa using D);subst this;refine⟨V.vars,UK O,UL,?_⟩;simp only[qU,bK,dA,cM,aV,aaw];omega
end
end Go.Am
end
section
namespace Go.Am
open Go
def q1(m:Nat):Nat:=m/4294967296%4294967296
def q2(m:Nat):Nat:=m/18446744073709551616%4294967296
def q3(m:Nat):Nat:=m/79228162514264337593543950336%4294967296
def nF(z:Int):Int×Bool:=if-9223372036854775808<=z/\z<=9223372036854775807 then (z,true)else (0,false)
def DR(a b:Int):Int×Int:=if b=0 then (0,3)else if a= -9223372036854775808/\b= -1 then (0,2)else (a.tdiv b,0)
def GQ(a b:Int):Int×Int:=if b=0 then (0,3)else (a.tmod b,0)
theorem O4(a b:Int):a.tdiv b=(if decide (a<0)=decide (b<0)then ((a.natAbs/b.natAbs:Nat):Int)else-((a.natAbs/b.natAbs:Nat):Int)):=by
 rcases Int.lt_or_le a 0 with D|D<;>rcases Int.lt_or_le b 0 with E|E
 ·rw[aat (by simp[D,E])];obtain⟨m,rfl⟩:∃m:Nat,a= -(m:Int):=⟨a.natAbs,by omega⟩;obtain⟨n,rfl⟩:∃n:Nat,b= -(n:Int):=⟨b.natAbs,by omega⟩;simp[Int.neg_tdiv,Int.tdiv_neg]
 ·rw[aab (by simp[D];omega)];obtain⟨m,rfl⟩:∃m:Nat,a= -(m:Int):=⟨a.natAbs,by omega⟩;obtain⟨n,rfl⟩:∃n:Nat,b=(n:Int):=⟨b.natAbs,by omega⟩;simp[Int.neg_tdiv]
 ·rw[aab (by simp[E];omega)];obtain⟨m,rfl⟩:∃m:Nat,a=(m:Int):=⟨a.natAbs,by omega⟩;obtain⟨n,rfl⟩:∃n:Nat,b= -(n:Int):=⟨b.natAbs,by omega⟩;simp[Int.tdiv_neg]
 ·rw[aat (by simp;omega)];obtain⟨m,rfl⟩:∃m:Nat,a=(m:Int):=⟨a.natAbs,by omega⟩;obtain⟨n,rfl⟩:∃n:Nat,b=(n:Int):=⟨b.natAbs,by omega⟩;simp
theorem ai6(a b:Int):a*b=(if decide (a<0)=decide (b<0)then ((a.natAbs*b.natAbs:Nat):Int)else-((a.natAbs*b.natAbs:Nat):Int)):=by
 rcases Int.lt_or_le a 0 with D|D<;>rcases Int.lt_or_le b 0 with E|E
 ·rw[aat (by simp[D,E])];obtain⟨m,rfl⟩:∃m:Nat,a= -(m:Int):=⟨a.natAbs,by omega⟩;obtain⟨n,rfl⟩:∃n:Nat,b= -(n:Int):=⟨b.natAbs,by omega⟩;simp[Int.neg_mul,Int.mul_neg]
 ·rw[aab (by simp[D];omega)];obtain⟨m,rfl⟩:∃m:Nat,a= -(m:Int):=⟨a.natAbs,by omega⟩;obtain⟨n,rfl⟩:∃n:Nat,b=(n:Int):=⟨b.natAbs,by omega⟩;simp[Int.neg_mul]
 ·rw[aab (by simp[E];omega)];obtain⟨m,rfl⟩:∃m:Nat,a=(m:Int):=⟨a.natAbs,by omega⟩;obtain⟨n,rfl⟩:∃n:Nat,b= -(n:Int):=⟨b.natAbs,by omega⟩;simp[Int.mul_neg]
 ·rw[aat (by simp;omega)];obtain⟨m,rfl⟩:∃m:Nat,a=(m:Int):=⟨a.natAbs,by omega⟩;obtain⟨n,rfl⟩:∃n:Nat,b=(n:Int):=⟨b.natAbs,by omega⟩;simp
def jK(b:Bool):Int:=if b=true then 1 else 0
@[simp] def UM(p:Int×Bool×Int):AV:=.aY [.d (.int .i64 p.1),.d (.bool p.2.1),.d (.int .i64 p.2.2)]
def og:Int×Bool×Int:=(0,false, -1)
def zC(p:Int×Bool):Int×Bool×Int:=if p.2=true then (p.1,false,0)else (0,false,2)
def tw(p:Int×Int):Int×Bool×Int:=if p.2=3 then (0,false,1)else if p.2=0 then (p.1,false,0)else (0,false,2)
def Al(op a:Int)(t:Bool):Int×Bool×Int:=
 if t=true then (if a≠0/\a≠1 then og else if op=7 then (jK (decide (a=0)),true,0)else og)
 else if op=6 then zC (nF (0-a))else og
def O5(op a b:Int):Int×Bool×Int:=
 if op=13 then (jK (decide (a=b)),true,0)else if op=14\/op=20 then (jK (decide (a≠b)),true,0)
 else if op=19 then (jK (decide (a=1/\b=1)),true,0)else if op=21 then (jK (decide (a=1\/b=1)),true,0)else og
def IP(op a b:Int):Int×Bool×Int:=
 if op=8 then zC (nF (a+b))else if op=9 then zC (nF (a-b))else if op=10 then zC (nF (a*b))else if op=11 then tw (DR a b)else if op=12 then tw (GQ a b)
 else if op=13 then (jK (decide (a=b)),true,0)else if op=14 then (jK (decide (a≠b)),true,0)else if op=15 then (jK (decide (a<b)),true,0)
 else if op=16 then (jK (decide (b<a)),true,0)else if op=17 then (jK (decide (a<=b)),true,0)else if op=18 then (jK (decide (b<=a)),true,0)else og
def FZ(op a b:Int)(t:Bool):Int×Bool×Int:=
 if t=true then (if (a≠0/\a≠1)\/(b≠0/\b≠1)then og else O5 op a b)else IP op a b
end Go.Am
end
section
namespace Go.Am
inductive Ends(succ:Nat->List Nat):Nat->Prop
 |mk (i:Nat) (h:∀j∈succ i,Ends succ j):Ends succ i
inductive Way(succ:Nat->List Nat):Nat->Nat->Prop
 |one {i j} (h:j∈succ i):Way succ i j
 |more {i j k} (h:Way succ i j) (H:k∈succ j):Way succ i k
theorem Way.trans{succ:Nat->List Nat}{i j k:Nat}(h:Way succ i j)(H:Way succ j k):Way succ i k:=by
 induction H with
 |one J=>exact .more h J
 |more _ J ih=>exact .more ih J
theorem Ends.aeM{succ:Nat->List Nat}{i:Nat}(h:Ends succ i):¬Way succ i i:=by
 induction h with
 |mk i h ih=>
  intro w
  --AB first step of AB AH
  have first:∀{a b},Way succ a b->∃c∈succ a,c=b\/Way succ c b:=by
   intro a b w;induction w with
   |one h=>exact⟨_,h,.inl rfl⟩
   |more _ H ih=>
    obtain⟨c,U,J⟩:=ih;rcases J with rfl|J
    ·exact⟨_,U,.inr (.one H)⟩
    ·exact⟨_,U,.inr (.more J H)⟩
  obtain⟨c,U,J⟩:=first w
  rcases J with rfl|J
  ·exact ih _ U w
  ·exact ih c U (J.trans (.one U))
mutual
def kF(succ:Nat->List Nat):Nat->Nat->List Nat->Bool×List Nat
 |0,_,D=>(true,D)
 |f+1,at_,D=>if D.getD at_ 0≠0 then (D.getD at_ 0 == 1,D)else
  match kh succ f (succ at_) (D.set at_ 1)with
  |(true,s)=>(true,s)
  |(false,s)=>(false,s.set at_ 2)
def kh(succ:Nat->List Nat):Nat->List Nat->List Nat->Bool×List Nat
 |_,[],D=>(false,D)
 |f,n::r,D=>match kF succ f n D with
  |(true,s)=>(true,s)
  |(false,s)=>kh succ f r s
end
def fresh(D:List Nat):Nat:=D.countP (·== 0)
structure sj(succ:Nat->List Nat)(D V:List Nat):Prop where
 len:V.length=D.length
 JN:∀i,V.getD i 0=1↔D.getD i 0=1
 black:∀i,D.getD i 0=2->V.getD i 0=2
 O6:(∀i,D.getD i 0<=2)->∀i,V.getD i 0<=2
 ends:(∀i,D.getD i 0=2->Ends succ i)->∀i,V.getD i 0=2->Ends succ i
 fresh:fresh V<=fresh D
theorem sj.refl(succ:Nat->List Nat)(s:List Nat):sj succ s s:=⟨rfl,λ_=>aoR,λ_ h=>h,λh=>h,λh=>h,aad _⟩
theorem sj.trans{succ:Nat->List Nat}{a b c:List Nat}(h:sj succ a b)(k:sj succ b c):sj succ a c:=
 ⟨by rw[k.len,h.len],λi=>(k.JN i).trans (h.JN i),λi hi=>k.black i (h.black i hi),λE=>k.O6 (h.O6 E),λhe=>k.ends (h.ends he),akm k.fresh h.fresh⟩
theorem ki(l:List Nat)(i j v:Nat):(l.set i v).getD j 0=if i=j/\i<l.length then v else l.getD j 0:=by
 simp only[acb,List.getElem?_set];by_cases h:i=j
 ·subst h;by_cases H:i<l.length
  ·simp[H]
  ·simp[H]
 ·simp[h]
theorem Lu{l:List Nat}{i v:Nat}(h:l.getD i 0=0)(hi:i<l.length)(E:v≠0):fresh (l.set i v)+1=fresh l:=by
 induction l generalizing i with
 |nil=>simp at hi
 |cons x r ih=>
  cases i with
  |zero=>
   simp at h;subst h;simp[fresh,E]
  |succ i=>
   have I:=ih (i:=i) (by simpa using h) (by simpa using hi);unfold fresh at I⊢;simp only[List.set_cons_succ,List.countP_cons];omega
theorem xC{l:List Nat}{i v:Nat}(E:v≠0):fresh (l.set i v)<=fresh l:=by
 induction l generalizing i with
 |nil=>simp
 |cons x r ih=>
  cases i with
  |zero=>
   simp only[fresh,List.set_cons_zero,List.countP_cons];simp[E]
  |succ i=>
   have I:=ih (i:=i);unfold fresh at I⊢;simp only[List.set_cons_succ,List.countP_cons];omega
def aos(succ:Nat->List Nat)(D:List Nat)(at_:Nat):Prop:=∀i,D.getD i 0=1->Way succ i at_
theorem UN(succ:Nat->List Nat):∀f:Nat,
 (∀at_ D,fresh D<f->at_<D.length->(∀i<D.length,∀j∈succ i,j<D.length)->(∀i,D.getD i 0<=2)->aos succ D at_->
  ((kF succ f at_ D).1=true->∃i,i<D.length/\Way succ i i)/\((kF succ f at_ D).1=false->sj succ D (kF succ f at_ D).2/\(kF succ f at_ D).2.getD at_ 0=2))/\
 (∀l at_ D,fresh D<f->(∀n∈l,n∈succ at_)->(∀n∈l,n<D.length)->D.getD at_ 0=1->(∀i<D.length,∀j∈succ i,j<D.length)->(∀i,D.getD i 0<=2)->(∀i,D.getD i 0=1->i=at_\/Way succ i at_)->
  ((kh succ f l D).1=true->∃i,i<D.length/\Way succ i i)/\((kh succ f l D).1=false->sj succ D (kh succ f l D).2/\∀n∈l,(kh succ f l D).2.getD n 0=2))
 |0=>⟨λ_ _ h=>by omega,λ_ _ _ h=>by omega⟩
 |f+1=>by
  have A':∀at_ D,fresh D<f+1->at_<D.length->(∀i<D.length,∀j∈succ i,j<D.length)->(∀i,D.getD i 0<=2)->aos succ D at_->
   ((kF succ (f+1) at_ D).1=true->∃i,i<D.length/\Way succ i i)/\((kF succ (f+1) at_ D).1=false->sj succ D (kF succ (f+1) at_ D).2/\(kF succ (f+1) at_ D).2.getD at_ 0=2):=by
   intro at_ D A0 M T E W;have AC:=(UN succ f).2 (succ at_) at_ (D.set at_ 1);unfold kF;by_cases A5:D.getD at_ 0≠0
   ·rw[aat A5];refine⟨λh=>⟨at_,M,W at_ (by simpa using h)⟩,λh=>⟨sj.refl _ _,?_⟩⟩;have:=E at_;simp only[beq_eq_false_iff_ne]at h;simp only
    omega
   ·rw[aab A5];have A2:D.getD at_ 0=0:=by omega
    have AD:=Lu (v:=1) A2 M (by decide);have A3:=AC (by omega) (λn h=>h) (λn h=>by simpa using T at_ M n h) (by rw[ki];simp[M]) (by simpa using T)
     (λi=>by rw[ki];split;omega;exact E i)
     (λi hi=>by
      rw[ki]at hi;split at hi
      ·rename_i h;exact .inl h.1.symm
      ·exact .inr (W i hi))
    obtain⟨s,b,he⟩:∃s b,kh succ f (succ at_) (D.set at_ 1)=(b,s):=⟨_,_,rfl⟩;rw[he]at A3⊢;cases b with
    |true=>exact⟨λ_=>by simpa using A3.1 rfl,λh=>by simp at h⟩
    |false=>
     refine⟨λh=>by simp at h,λ_=>?_⟩;obtain⟨ok,O⟩:=A3.2 rfl;simp only at ok O⊢;have A4:s.length=D.length:=by rw[ok.len];simp
     refine⟨⟨by simp[A4],λi=>?_,λi hi=>?_,λ_ i=>?_,λAE i hi=>?_,?_⟩,by rw[ki];simp[A4,M]⟩
     ·rw[ki];by_cases hi:at_=i
      ·subst hi;simp only[A4,M,and_self,acH,A2];omega
      ·simp only[hi,false_and,acw];rw[ok.JN i,ki];simp[hi]
     ·rw[ki];split
      ·rfl
      ·refine ok.black i ?_;rw[ki];split
       ·rename_i h;rw[<-h.1,A2]at hi;omega
       ·exact hi
     ·rw[ki];split
      ·omega
      ·refine ok.O6 (λi=>?_) i;rw[ki];split;omega;exact E i
     ·have A6:∀i,s.getD i 0=2->Ends succ i:=ok.ends (λi hi=>by
       rw[ki]at hi;split at hi
       ·omega
       ·exact AE i hi)
      rw[ki]at hi;split at hi
      ·rename_i h;rw[<-h.1];exact .mk _ (λj Y=>A6 j (O j Y))
      ·exact A6 i hi
     ·have I:=xC (l:=s) (i:=at_) (v:=2) (by decide);have H:=ok.fresh;omega
  refine⟨A',?_⟩;intro l;induction l with
  |nil=>
   intro at_ D _ _ _ _ _ _ _;unfold kh;exact⟨λh=>by simp at h,λ_=>⟨sj.refl _ _,λn h=>by simp at h⟩⟩
  |cons n r ih=>
   intro at_ D A0 A7 Z AF T E W;have I:=A' n D A0 (Z n (by simp)) T E (λi hi=>by
    have A1:=A7 n (by simp);rcases W i hi with rfl|h
    ·exact .one A1
    ·exact .more h A1)
   unfold kh;obtain⟨s,b,he⟩:∃s b,kF succ (f+1) n D=(b,s):=⟨_,_,rfl⟩;rw[he]at I⊢;cases b with
   |true=>exact⟨λ_=>I.1 rfl,λh=>by simp at h⟩
   |false=>
    obtain⟨ok,y⟩:=I.2 rfl;simp only at ok y⊢;have H:=ih at_ s (Nat.lt_of_le_of_lt ok.fresh A0) (λm hm=>A7 m (by simp[hm])) (λm hm=>by rw[ok.len];exact Z m (by simp[hm])) ((ok.JN at_).2 AF)
     (by rw[ok.len];exact T) (ok.O6 E) (λi hi=>W i ((ok.JN i).1 hi))
    refine⟨λh=>by have:=H.1 h;rwa [ok.len]at this,λh=>?_⟩;obtain⟨A8,O⟩:=H.2 h;refine⟨ok.trans A8,λm hm=>?_⟩;rcases aaC.1 hm with rfl|hm
    ·exact A8.black _ y
    ·exact O m hm
def rounds(succ:Nat->List Nat)(f:Nat):List Nat->List Nat->Bool
 |[],_=>false
 |n::r,D=>match kF succ f n D with
  |(true,_)=>true
  |(false,s)=>rounds succ f r s
theorem Y5(succ:Nat->List Nat)(N f:Nat)(A0:N<f)(T:∀i<N,∀j∈succ i,j<N):
 rounds succ f (List.range N) (List.replicate N 0)=true↔∃i<N,¬Ends succ i:=by
 have key:∀(l:List Nat)(D:List Nat),D.length=N->(∀n∈l,n<N)->(∀i,D.getD i 0≠1)->(∀i,D.getD i 0<=2)->(∀i,D.getD i 0=2->Ends succ i)->(∀i<N,i∈l\/D.getD i 0=2)->
  (rounds succ f l D=true↔∃i<N,¬Ends succ i):=by
  intro l;induction l with
  |nil=>
   intro D _ _ _ _ he O;unfold rounds;refine⟨λh=>by simp at h,?_⟩;rintro ⟨i,hi,A1⟩;rcases O i hi with h|h
   ·simp at h
   ·exact absurd (he i h) A1
  |cons n r ih=>
   intro D M Z A9 E he O;have AD:fresh D<=D.length:=List.countP_le_length;have I:=(UN succ f).1 n D (by omega) (by rw[M];exact Z n (by simp)) (by rw[M];exact T) E (λi hi=>absurd hi (A9 i));unfold rounds;obtain⟨s,b,A'⟩:∃s b,kF succ f n D=(b,s):=⟨_,_,rfl⟩;rw[A']at I⊢;cases b with
   |true=>
    refine⟨λ_=>?_,λ_=>rfl⟩;obtain⟨i,hi,w⟩:=I.1 rfl;exact⟨i,by omega,λh=>h.aeM w⟩
   |false=>
    obtain⟨ok,y⟩:=I.2 rfl;simp only at ok y⊢;refine ih s (by rw[ok.len,M]) (λm hm=>Z m (by simp[hm])) (λi hi=>A9 i ((ok.JN i).1 hi)) (ok.O6 E) (ok.ends he) (λi hi=>?_);rcases O i hi with h|h
    ·rcases aaC.1 h with rfl|h
     ·exact .inr y
     ·exact .inl h
    ·exact .inr (ok.black i h)
 refine key _ _ (by simp) (by simp) (λi=>?_) (λi=>?_) (λi hi=>?_) (λi hi=>.inl (by simpa using hi))
 ·simp[acb,aot];split<;>simp
 ·simp[acb,aot];split<;>simp
 ·simp[acb,aot]at hi;split at hi<;>simp at hi
def left(g:List Bool):Nat:=g.countP (·== false)
theorem Q1{succ:Nat->List Nat}{p:Nat->Bool}(AG:∀j,p j=false->Ends succ j)(i:Nat):Ends (λi=>(succ i).filter p) i↔Ends succ i:=by
 constructor
 ·intro h;induction h with
  |mk i h ih=>
   refine .mk _ (λj Y=>?_);cases AA:p j with
   |false=>exact AG j AA
   |true=>exact ih j (by simp[Y,AA])
 ·intro h;induction h with
  |mk i h ih=>exact .mk _ (λj Y=>ih j ((afS.1 Y).1))
structure ay where
 op:Int
 a:Int
 b:Int
 n:Int
 m:Int
def gU(cells at_ n:Int):Bool:=decide (0<=at_)&&decide (0<=n)&&decide (n<=cells)&&decide (at_<=cells-n)
def vU(x:ay):Bool:=
 if x.a=0 then decide (x.b=6)||decide (8<=x.b)&&decide (x.b<=18)
 else if x.a=1 then decide (x.b=7)||decide (x.b=13)||decide (x.b=14)||decide (19<=x.b)&&decide (x.b<=21)
 else false
def GR(cells:Int)(x:ay):Bool:=decide (0<=x.n)&&decide (x.n<=x.m)&&decide (x.m<=255)&&gU cells x.a (x.m-x.n+1)
def dg(D:Int->Nat)(cells last at_:Int)(x:ay):Bool:=
 if x.op=1\/x.op=11 then true
 else if x.op=2\/x.op=3\/x.op=6\/x.op=14 then gU cells x.a 1
 else if x.op=13 then gU cells x.a 1&&gU cells x.b 2
 else if x.op=4\/x.op=5\/x.op=7 then GR cells x
 else if x.op=8 then vU x
 else if x.op=9\/x.op=10 then decide (0<=x.a)&&decide (x.a<=last)
 else if x.op=12 then decide (0<D x.b)&&gU cells x.a (D x.b)
 else if x.op=15 then decide (at_=last)
 else false
def px(D:Int->Nat)(cells last:Int):Nat->List ay->Bool
 |_,[]=>true
 |i,x::r=>dg D cells last i x&&px D cells last (i+1) r
def jo(n:Nat)(t:Bool)(S:List Bool):Option (List Bool):=
 if S.length<n then none else if t&&(S.drop (S.length-n)).any (λb=>!b)then none else some (S.take (S.length-n))
def eO(t:Bool)(S:List Bool):Option (List Bool):=if S.length<64 then some (S++[t])else none
def iu(S:List Bool):Option (List Bool):=if S=[]then some []else none
def cm(x:ay)(S:List Bool):Option (List Bool):=
 if x.op=1 then eO (decide (x.n=0)||decide (x.n=1)) S
 else if x.op=2 then eO false S
 else if x.op=3\/x.op=13\/x.op=14 then eO true S
 else if x.op=4 then (jo 1 false S).bind (eO false)
 else if x.op=5 then (jo 1 false S).bind (eO true)
 else if x.op=6 then jo 1 false S
 else if x.op=7 then jo 2 false S
 else if x.op=8 then (jo (if x.b=6\/x.b=7 then 1 else 2) (decide (x.a=1)) S).bind (eO (decide (x.b=7)||decide (13<=x.b)))
 else if x.op=10 then (jo 1 true S).bind iu
 else iu S
def gN(Lv:List Bool):Nat->List ay->List Bool->Bool
 |_,[],_=>true
 |i,x::r,S=>if Lv.getD i false&&!S.isEmpty then false else match cm x S with
  |none=>false
  |some W=>gN Lv (i+1) r W
def oH(ins:List ay):List Bool:=ins.foldl (λl x=>if x.op=9\/x.op=10 then l.set x.a.toNat true else l) (List.replicate ins.length false)
def Bz(ins:List ay)(i:Nat):List Nat:=
 match ins[i]? with
 |none=>[]
 |some x=>if x.op=9 then [x.a.toNat]else if x.op=10 then [i+1,x.a.toNat]else if x.op=15 then []else [i+1]
def jg(ins:List ay)(i:Nat):Bool:=
 match ins[i]? with
 |none=>false
 |some x=>decide (x.op=11)
def yG(ins:List ay)(i:Nat):List Nat:=if jg ins i=true then []else Bz ins i
def gp(ins:List ay)(i:Nat):List Nat:=(yG ins i).filter λj=>!jg ins j
theorem ab3(ins:List ay)(i:Nat):Ends (gp ins) i↔Ends (yG ins) i:=
 Q1 (p:=λj=>!jg ins j) (λj E=>.mk _ (λk Y=>by
  have:jg ins j=true:=by simpa using E
  simp[yG,this]at Y)) i
def IQ(n vars cells:Int)(uM:Int):Bool:=decide (1<=n)&&decide (n<=4096)&&decide (0<=cells)&&decide (cells<=8192)&&decide (0<=vars)&&decide (vars<=cells)&&decide (uM=15)
def uM(ins:List ay):Int:=(ins.getLast?.map (·.op)).getD 0
def mZ(D:Int->Nat)(ins:List ay)(vars cells:Int):Bool:=IQ ins.length vars cells (uM ins)&&px D cells ((ins.length:Int)-1) 0 ins
def An(D:Int->Nat)(ins:List ay)(vars cells:Int):Bool:=
 mZ D ins vars cells&&gN (oH ins) 0 ins []&&!(rounds (gp ins) (ins.length+1) (List.range ins.length) (List.replicate ins.length 0))
theorem yH{D:Int->Nat}{cells last:Int}:∀{ins:List ay}{i0:Nat},px D cells last i0 ins=true->∀i x,ins[i]?=some x->dg D cells last ((i0+i:Nat):Int) x=true
 |y::r,i0,h,i,x,H=>by
  simp only[px,Ds]at h;cases i with
  |zero=>simp at H;subst H;exact h.1
  |succ i=>
   have:=yH h.2 i x (by simpa using H);rw[show i0+(i+1)=i0+1+i by omega];exact this
theorem ai7{D:Int->Nat}{ins:List ay}{vars cells:Int}(h:mZ D ins vars cells=true):∀i<ins.length,∀j∈yG ins i,j<ins.length:=by
 intro i hi j E;simp only[mZ,Ds]at h;have H:ins[i]?=some ins[i]:=by simp[hi]
 have I:=yH h.2 i _ H;simp only[ahI]at I;have O:i+1=ins.length->ins[i].op=15:=by
  intro Z;have T:=h.1;simp only[IQ,Ds,aak]at T;have J:=T.2;unfold uM at J;rw[an9,show ins.length-1=i by omega,H]at J;simpa using J
 unfold yG at E;split at E
 ·simp at E
 ·unfold Bz at E;rw[H]at E;simp only at E;unfold dg at I;by_cases U:ins[i].op=9
  ·simp[U]at E I;omega
  ·by_cases V:ins[i].op=10
   ·simp[V]at E I;have:i+1≠ins.length:=λh=>by have:=O h;omega
    omega
   ·by_cases M:ins[i].op=15
    ·simp[M]at E
    ·simp[U,V,M]at E;have:i+1≠ins.length:=λh=>M (O h);omega
theorem ab4{D:Int->Nat}{ins:List ay}{vars cells:Int}(h:mZ D ins vars cells=true):
 rounds (gp ins) (ins.length+1) (List.range ins.length) (List.replicate ins.length 0)=true↔∃i<ins.length,¬Ends (yG ins) i:=by
 rw[Y5 (gp ins) ins.length (ins.length+1) (by omega) (λi hi j E=>ai7 h i hi j (afS.1 E).1)];simp only[ab3]
end Go.Am
end
section
namespace Go.Am
open Go
def vV(b:Int):Nat:=
 if b=10 then 4 else if b=11 then 4 else if b=12 then 6 else if b=13 then 6 else if b=14 then 6 else if b=15 then 3 else if b=16 then 3 else if b=17 then 3 else if b=18 then 3 else if b=20 then 4 else if b=21 then 9 else if b=22 then 9 else if b=23 then 9 else if b=24 then 12 else if b=25 then 12 else if b=26 then 12 else if b=27 then 10 else if b=28 then 12 else if b=29 then 5 else if b=30 then 6 else if b=31 then 4 else 0
def iO:List Int:=[10,11,12,13,14,15,16,17,18,20,21,22,23,24,25,26,27,28,29,30,31]
theorem sl{b:Int}(D:b∉iO):cG b=[]:=by
 simp only[iO,aaC,afQ,aon,alg]at D;obtain⟨E,H,I,J,M,O,T,U,V,W,Y,Z,y,A',A0,A1,A2,A3,A4,A5,A6⟩:=D;unfold cG pnT;simp only[By,aab (ake E),aab (ake H),aab (ake I),aab (ake J),aab (ake M),aab (ake O),aab (ake T),aab (ake U),aab (ake V),aab (ake W),aab (ake Y),aab (ake Z),aab (ake y),aab (ake A'),aab (ake A0),aab (ake A1),aab (ake A2),aab (ake A3),aab (ake A4),aab (ake A5),aab (ake A6)]
theorem DS(b:Int):(cG b).length<=20:=by
 by_cases D:b∈iO
 ·simp only[iO,aaC,afQ,aon]at D;rcases D with rfl|rfl|rfl|rfl|rfl|rfl|rfl|rfl|rfl|rfl|rfl|rfl|rfl|rfl|rfl|rfl|rfl|rfl|rfl|rfl|rfl<;>decide
 ·rw[sl D];decide
def c9{α:Type}(p:α->Bool):List α->Nat->Int
 |[],_=> -1
 |x::r,i=>if p x=true then i else c9 p r (i+1)
theorem lX{α:Type}(p:α->Bool):∀(l:List α)(i:Nat),c9 p l i= -1\/(i<=c9 p l i/\c9 p l i<i+l.length)
 |[],i=>.inl rfl
 |x::r,i=>by
  unfold c9;split
  ·right;simp;omega
  ·rcases lX p r (i+1)with h|h
   ·exact .inl h
   ·right;simp only[aan];omega
theorem BA{α:Type}(p:α->Bool):∀(l:List α)(i:Nat),decide (0<=c9 p l i)=l.any p
 |[],i=>by simp[c9]
 |x::r,i=>by
  unfold c9;cases h:p x with
  |true=>simp[h]
  |false=>simpa [h]using BA p r (i+1)
theorem DT{α:Type}(p:α->Bool)(l:List α)(i:Nat):(0<=c9 p l i)↔l.any p=true:=by
 rw[<-BA p l i];simp
theorem GS{α:Type}(p:α->Bool):∀(l pre:List α),0<=c9 p l pre.length->∃x,(pre++l)[(c9 p l pre.length).toNat]?=some x/\l.find? p=some x/\(c9 p l pre.length).toNat<(pre++l).length
 |[],pre,h=>by simp[c9]at h
 |x::r,pre,h=>by
  unfold c9 at h⊢;by_cases H:p x=true
  ·rw[aat H];exact⟨x,by simp,by simp[H],by simp⟩
  ·rw[aab H]at h⊢;have ih:=GS p r (pre++[x]) (by simpa using h);simp only[aam,af4,acD,aoS]at ih;obtain⟨y,D,E,I⟩:=ih;exact⟨y,D,by simpa [H]using E,by simpa using I⟩
theorem O7(s:Tx):∀l:List Vr,l.find? (λv=>decide (v.name=s))=bE l s
 |[]=>rfl
 |v::r=>by
  by_cases h:v.name=s
  ·simp[bE,h]
  ·simp[bE,h,O7 s r]
theorem O8(s:Tx):∀l:List Pn,l.find? (λp=>decide (p.name=s)&&!decide (s=[]))=xA l s
 |[]=>rfl
 |p::r=>by
  by_cases h:p.name=s/\s≠[]
  ·simp[xA,h]
  ·have:(decide (p.name=s)&&!decide (s=[]))=false:=by
    by_cases D:p.name=s
    ·have:s=[]:=Classical.byContradiction λE=>h ⟨D,E⟩;simp[this]
    ·simp[D]
   simp[xA,this,O8 s r];simp only[ne_eq,not_and,ak0]at h;intro D E;exact absurd (h D) E
theorem ahP(s:Tx)(l:List Vr):(l.any λv=>decide (v.name=s))=(bE l s).isSome:=by
 rw[<-O7];induction l with
 |nil=>rfl
 |cons v r ih=>by_cases h:v.name=s<;>simp[h,ih]
end Go.Am
end
section
namespace Go.Am
open Go Go.Proofs Go.Proofs.Tryz
variable [Inhabited bV]
set_option maxRecDepth 20000
def lY(e l:Int):D:=.agg [.int .i64 e,.int .i64 l]
@[simp] theorem aw5(a b:Tx):(a == b)=decide (a=b):=by by_cases h:a=b<;>simp[h]
theorem ai8(e l:Int):ag ctx 232 [.d (.int .i64 e),.d (.int .i64 l)] []=some (.panic 233 (lY e l),[]):=by
 rw[am8 (by simp)];simp[f232,lY]
theorem cR(b:Bool)(e l:Int):ag ctx 169 [.d (.bool b),.d (.int .i64 e),.d (.int .i64 l)] []=if b=true then some (.ret (.aY []),[])else some (.panic 233 (lY e l),[]):=by
 rw[amz (by simp)];cases b<;>simp[f169,ai8]
theorem ai9(s:Tx)(v:Vr):ag ctx 301 [.d (aW v),.ptr 0 0 0] [.box [.d (.str s)]]=some (.ret (.d (.bool (decide (v.name=s)))),[(0,.box [.d (.str s)])]):=by
 rw[anN (by simp)];simp[f301,aW,dx]
theorem aja(v x:Vr):ag ctx 171 [.d (aW x),.ptr 0 0 0] [.box [.d (.str v.name),.d (.int .i64 v.ty),.d (.int .i64 v.sec),.d (.bool v.arr),.d (.int .i64 v.lo),.d (.int .i64 v.hi),.d (.int .i64 v.init),.d (.int .i64 v.line)]]=some (.ret (.d (.bool (decide (x.name=v.name)))),[(0,.box [.d (.str v.name),.d (.int .i64 v.ty),.d (.int .i64 v.sec),.d (.bool v.arr),.d (.int .i64 v.lo),.d (.int .i64 v.hi),.d (.int .i64 v.init),.d (.int .i64 v.line)])]):=by
 rw[amB (by simp)];simp[f171,aW,dx]
theorem ajb(s:Tx)(p:Pn):ag ctx 305 [.d (eY p),.ptr 0 0 0] [.box [.d (.str s)]]=some (.ret (.d (.bool (decide (p.name=s)&&!decide (s=[])))),[(0,.box [.d (.str s)])]):=by
 rw[anR (by simp)];by_cases h:p.name=s<;>simp[f305,eY,h];all_goals (cases s<;>rfl)
theorem ajc(t:Int)(x:Int):ag ctx 313 [.d (.int .i64 x),.ptr 0 0 0] [.box [.d (.int .i64 t)]]=some (.ret (.d (.bool (!decide (x=t)))),[(0,.box [.d (.int .i64 t)])]):=by
 rw[anX (by simp)];by_cases h:x=t<;>simp[f313,h]
theorem Lw(s:Tx):∀(rest pre:List Vr),(pre++rest).length<1000000->∀k:Kt,
 aZ ctx 233 (.loop (Code.at (bg f233) [1,0,1,0,0])) ⟨19,aX,[(0,true,.d (.list ((pre++rest).map aW))),(1,true,.fn 301 [.ptr 0 0 0]),(7,true,.d (.int .i64 (pre++rest).length)),(8,true,.d (.int .i64 pre.length))],[⟨0,0,.box [.d (.str s)]⟩]⟩ k=
  if c9 (λv:Vr=>decide (v.name=s)) rest pre.length<0 then k (.exit 0) ⟨19,aX,[(0,true,.d (.list ((pre++rest).map aW))),(1,true,.fn 301 [.ptr 0 0 0]),(7,true,.d (.int .i64 (pre++rest).length)),(8,true,.d (.int .i64 (pre++rest).length)),(9,true,.d (.bool false))],[⟨0,0,.box [.d (.str s)]⟩]⟩
  else k .ret ⟨19,aX,[(4,true,.d (.int .i64 (c9 (λv:Vr=>decide (v.name=s)) rest pre.length)))],[⟨0,0,.box [.d (.str s)]⟩]⟩
 |[],pre,E,k=>by
  rw[ai];simp[f233,c9]
 |x::rest,pre,E,k=>by
  obtain⟨b,I⟩:∃b,b=(λv:Vr=>decide (v.name=s)) x:=⟨_,rfl⟩;have J:ag ctx 301 [.d (aW x),.ptr 0 0 0] [.box [.d (.str s)]]=some (.ret (.d (.bool b)),[(0,.box [.d (.str s)])]):=by rw[I];exact ai9 s x
  have key:c9 (λv:Vr=>decide (v.name=s)) (x::rest) pre.length=if b=true then (pre.length:Int)else c9 (λv:Vr=>decide (v.name=s)) rest (pre.length+1):=by rw[I];rfl
  have ih:=Lw s rest (pre++[x]) (by simpa using E) k;have H:(pre.length:Int)<pre.length+(rest.length+1):=by omega
  have M:IntKind.i64.wrap ((pre.length:Int)+1)=pre.length+1:=aB (by unfold bq;simp at E;omega);have O:¬((pre.length:Int)<0):=by omega
  simp[aW,dx]at J;rw[ai,key];clear I key;cases b with
  |true=>simp[f233,H,M,O,J,aW,dx]
  |false=>
   simp[f233,aW,dx]at ih⊢;simp[H,M,J,ih,aW,dx]
theorem ajd(s:Tx)(l:List Vr)(E:l.length<1000000):ag ctx 233 [.d (.list (l.map aW)),.fn 301 [.ptr 0 0 0]] [.box [.d (.str s)]]=some (.ret (.d (.int .i64 (c9 (λv:Vr=>decide (v.name=s)) l 0))),[(0,.box [.d (.str s)])]):=by
 have h:=λk=>Lw s l [] (by simpa using E) k;rw[abD (by simp)];simp[f233]at h⊢;simp[h];intro h;rcases lX (λv:Vr=>decide (v.name=s)) l 0 with H|H
 ·exact H.symm
 ·omega
theorem LA(v:Vr):∀(rest pre:List Vr),(pre++rest).length<1000000->∀k:Kt,
 aZ ctx 233 (.loop (Code.at (bg f233) [1,0,1,0,0])) ⟨19,aX,[(0,true,.d (.list ((pre++rest).map aW))),(1,true,.fn 171 [.ptr 0 0 0]),(7,true,.d (.int .i64 (pre++rest).length)),(8,true,.d (.int .i64 pre.length))],[⟨0,0,.box [.d (.str v.name),.d (.int .i64 v.ty),.d (.int .i64 v.sec),.d (.bool v.arr),.d (.int .i64 v.lo),.d (.int .i64 v.hi),.d (.int .i64 v.init),.d (.int .i64 v.line)]⟩]⟩ k=
  if c9 (λx:Vr=>decide (x.name=v.name)) rest pre.length<0 then k (.exit 0) ⟨19,aX,[(0,true,.d (.list ((pre++rest).map aW))),(1,true,.fn 171 [.ptr 0 0 0]),(7,true,.d (.int .i64 (pre++rest).length)),(8,true,.d (.int .i64 (pre++rest).length)),(9,true,.d (.bool false))],[⟨0,0,.box [.d (.str v.name),.d (.int .i64 v.ty),.d (.int .i64 v.sec),.d (.bool v.arr),.d (.int .i64 v.lo),.d (.int .i64 v.hi),.d (.int .i64 v.init),.d (.int .i64 v.line)]⟩]⟩
  else k .ret ⟨19,aX,[(4,true,.d (.int .i64 (c9 (λx:Vr=>decide (x.name=v.name)) rest pre.length)))],[⟨0,0,.box [.d (.str v.name),.d (.int .i64 v.ty),.d (.int .i64 v.sec),.d (.bool v.arr),.d (.int .i64 v.lo),.d (.int .i64 v.hi),.d (.int .i64 v.init),.d (.int .i64 v.line)]⟩]⟩
 |[],pre,E,k=>by
  rw[ai];simp[f233,c9]
 |x::rest,pre,E,k=>by
  obtain⟨b,I⟩:∃b,b=(λx:Vr=>decide (x.name=v.name)) x:=⟨_,rfl⟩;have J:ag ctx 171 [.d (aW x),.ptr 0 0 0] [.box [.d (.str v.name),.d (.int .i64 v.ty),.d (.int .i64 v.sec),.d (.bool v.arr),.d (.int .i64 v.lo),.d (.int .i64 v.hi),.d (.int .i64 v.init),.d (.int .i64 v.line)]]=some (.ret (.d (.bool b)),[(0,.box [.d (.str v.name),.d (.int .i64 v.ty),.d (.int .i64 v.sec),.d (.bool v.arr),.d (.int .i64 v.lo),.d (.int .i64 v.hi),.d (.int .i64 v.init),.d (.int .i64 v.line)])]):=by rw[I];exact aja v x
  have key:c9 (λx:Vr=>decide (x.name=v.name)) (x::rest) pre.length=if b=true then (pre.length:Int)else c9 (λx:Vr=>decide (x.name=v.name)) rest (pre.length+1):=by rw[I];rfl
  have ih:=LA v rest (pre++[x]) (by simpa using E) k;have H:(pre.length:Int)<pre.length+(rest.length+1):=by omega
  have M:IntKind.i64.wrap ((pre.length:Int)+1)=pre.length+1:=aB (by unfold bq;simp at E;omega);have O:¬((pre.length:Int)<0):=by omega
  simp[aW,dx]at J;rw[ai,key];clear I key;cases b with
  |true=>simp[f233,H,M,O,J,aW,dx]
  |false=>
   simp[f233,aW,dx]at ih⊢;simp[H,M,J,ih,aW,dx]
theorem aje(v:Vr)(l:List Vr)(E:l.length<1000000):ag ctx 233 [.d (.list (l.map aW)),.fn 171 [.ptr 0 0 0]] [.box [.d (.str v.name),.d (.int .i64 v.ty),.d (.int .i64 v.sec),.d (.bool v.arr),.d (.int .i64 v.lo),.d (.int .i64 v.hi),.d (.int .i64 v.init),.d (.int .i64 v.line)]]=some (.ret (.d (.int .i64 (c9 (λx:Vr=>decide (x.name=v.name)) l 0))),[(0,.box [.d (.str v.name),.d (.int .i64 v.ty),.d (.int .i64 v.sec),.d (.bool v.arr),.d (.int .i64 v.lo),.d (.int .i64 v.hi),.d (.int .i64 v.init),.d (.int .i64 v.line)])]):=by
 have h:=λk=>LA v l [] (by simpa using E) k;rw[abD (by simp)];simp[f233]at h⊢;simp[h];intro h;rcases lX (λx:Vr=>decide (x.name=v.name)) l 0 with H|H
 ·exact H.symm
 ·omega
theorem ajf(v:Vr)(l:List Vr)(E:l.length<1000000):ag ctx 170 [.d (.list (l.map aW)),.fn 171 [.ptr 0 0 0]] [.box [.d (.str v.name),.d (.int .i64 v.ty),.d (.int .i64 v.sec),.d (.bool v.arr),.d (.int .i64 v.lo),.d (.int .i64 v.hi),.d (.int .i64 v.init),.d (.int .i64 v.line)]]=some (.ret (.d (.bool (l.any (λx:Vr=>decide (x.name=v.name))))),[(0,.box [.d (.str v.name),.d (.int .i64 v.ty),.d (.int .i64 v.sec),.d (.bool v.arr),.d (.int .i64 v.lo),.d (.int .i64 v.hi),.d (.int .i64 v.init),.d (.int .i64 v.line)])]):=by
 have h:=aje v l E;rw[amA (by simp)];simp[f170,h,BA]
theorem LB(s:Tx):∀(rest pre:List Pn),(pre++rest).length<1000000->∀k:Kt,
 aZ ctx 241 (.loop (Code.at (bg f241) [1,0,1,0,0])) ⟨19,aX,[(0,true,.d (.list ((pre++rest).map eY))),(1,true,.fn 305 [.ptr 0 0 0]),(7,true,.d (.int .i64 (pre++rest).length)),(8,true,.d (.int .i64 pre.length))],[⟨0,0,.box [.d (.str s)]⟩]⟩ k=
  if c9 (λp:Pn=>decide (p.name=s)&&!decide (s=[])) rest pre.length<0 then k (.exit 0) ⟨19,aX,[(0,true,.d (.list ((pre++rest).map eY))),(1,true,.fn 305 [.ptr 0 0 0]),(7,true,.d (.int .i64 (pre++rest).length)),(8,true,.d (.int .i64 (pre++rest).length)),(9,true,.d (.bool false))],[⟨0,0,.box [.d (.str s)]⟩]⟩
  else k .ret ⟨19,aX,[(4,true,.d (.int .i64 (c9 (λp:Pn=>decide (p.name=s)&&!decide (s=[])) rest pre.length)))],[⟨0,0,.box [.d (.str s)]⟩]⟩
 |[],pre,E,k=>by
  rw[ai];simp[f241,c9]
 |x::rest,pre,E,k=>by
  obtain⟨b,I⟩:∃b,b=(λp:Pn=>decide (p.name=s)&&!decide (s=[])) x:=⟨_,rfl⟩;have J:ag ctx 305 [.d (eY x),.ptr 0 0 0] [.box [.d (.str s)]]=some (.ret (.d (.bool b)),[(0,.box [.d (.str s)])]):=by rw[I];exact ajb s x
  have key:c9 (λp:Pn=>decide (p.name=s)&&!decide (s=[])) (x::rest) pre.length=if b=true then (pre.length:Int)else c9 (λp:Pn=>decide (p.name=s)&&!decide (s=[])) rest (pre.length+1):=by rw[I];rfl
  have ih:=LB s rest (pre++[x]) (by simpa using E) k;have H:(pre.length:Int)<pre.length+(rest.length+1):=by omega
  have M:IntKind.i64.wrap ((pre.length:Int)+1)=pre.length+1:=aB (by unfold bq;simp at E;omega);have O:¬((pre.length:Int)<0):=by omega
  simp[eY]at J;rw[ai,key];clear I key;cases b with
  |true=>simp[f241,H,M,O,J,eY]
  |false=>
   simp[f241,eY]at ih⊢;simp[H,M,J,ih,eY]
theorem ajg(s:Tx)(l:List Pn)(E:l.length<1000000):ag ctx 241 [.d (.list (l.map eY)),.fn 305 [.ptr 0 0 0]] [.box [.d (.str s)]]=some (.ret (.d (.int .i64 (c9 (λp:Pn=>decide (p.name=s)&&!decide (s=[])) l 0))),[(0,.box [.d (.str s)])]):=by
 have h:=λk=>LB s l [] (by simpa using E) k;rw[abE (by simp)];simp[f241]at h⊢;simp[h];intro h;rcases lX (λp:Pn=>decide (p.name=s)&&!decide (s=[])) l 0 with H|H
 ·exact H.symm
 ·omega
theorem LC(t:Int):∀(rest pre:List Int),(pre++rest).length<1000000->∀k:Kt,
 aZ ctx 317 (.loop (Code.at (bg f317) [1,0,1,0,0])) ⟨19,aX,[(0,true,.d (.list ((pre++rest).map (D.int .i64)))),(1,true,.fn 313 [.ptr 0 0 0]),(7,true,.d (.int .i64 (pre++rest).length)),(8,true,.d (.int .i64 pre.length))],[⟨0,0,.box [.d (.int .i64 t)]⟩]⟩ k=
  if c9 (λx:Int=>!decide (x=t)) rest pre.length<0 then k (.exit 0) ⟨19,aX,[(0,true,.d (.list ((pre++rest).map (D.int .i64)))),(1,true,.fn 313 [.ptr 0 0 0]),(7,true,.d (.int .i64 (pre++rest).length)),(8,true,.d (.int .i64 (pre++rest).length)),(9,true,.d (.bool false))],[⟨0,0,.box [.d (.int .i64 t)]⟩]⟩
  else k .ret ⟨19,aX,[(4,true,.d (.int .i64 (c9 (λx:Int=>!decide (x=t)) rest pre.length)))],[⟨0,0,.box [.d (.int .i64 t)]⟩]⟩
 |[],pre,E,k=>by
  rw[ai];simp[f317,c9]
 |x::rest,pre,E,k=>by
  obtain⟨b,I⟩:∃b,b=(λx:Int=>!decide (x=t)) x:=⟨_,rfl⟩;have J:ag ctx 313 [.d (D.int .i64 x),.ptr 0 0 0] [.box [.d (.int .i64 t)]]=some (.ret (.d (.bool b)),[(0,.box [.d (.int .i64 t)])]):=by rw[I];exact ajc t x
  have key:c9 (λx:Int=>!decide (x=t)) (x::rest) pre.length=if b=true then (pre.length:Int)else c9 (λx:Int=>!decide (x=t)) rest (pre.length+1):=by rw[I];rfl
  have ih:=LC t rest (pre++[x]) (by simpa using E) k;have H:(pre.length:Int)<pre.length+(rest.length+1):=by omega
  have M:IntKind.i64.wrap ((pre.length:Int)+1)=pre.length+1:=aB (by unfold bq;simp at E;omega);have O:¬((pre.length:Int)<0):=by omega
  try simp at J
  rw[ai,key];clear I key;cases b with
  |true=>simp[f317,H,M,O,J]
  |false=>
   simp[f317]at ih⊢;simp[H,M,J,ih]
theorem ajh(t:Int)(l:List Int)(E:l.length<1000000):ag ctx 317 [.d (.list (l.map (D.int .i64))),.fn 313 [.ptr 0 0 0]] [.box [.d (.int .i64 t)]]=some (.ret (.d (.int .i64 (c9 (λx:Int=>!decide (x=t)) l 0))),[(0,.box [.d (.int .i64 t)])]):=by
 have h:=λk=>LC t l [] (by simpa using E) k;rw[an0 (by simp)];simp[f317]at h⊢;simp[h];intro h;rcases lX (λx:Int=>!decide (x=t)) l 0 with H|H
 ·exact H.symm
 ·omega
theorem aji(t:Int)(l:List Int)(E:l.length<1000000):ag ctx 312 [.d (.list (l.map (D.int .i64))),.fn 313 [.ptr 0 0 0]] [.box [.d (.int .i64 t)]]=some (.ret (.d (.bool (l.any (λx:Int=>!decide (x=t))))),[(0,.box [.d (.int .i64 t)])]):=by
 have h:=ajh t l E;rw[anW (by simp)];simp[f312,h,BA]
theorem wh(l:List Int)(t:Int)(E:l.length<1000000):ag ctx 304 [.d (.list (l.map (D.int .i64))),.d (.int .i64 t)] []=some (.ret (.d (.bool (l.all λx=>decide (x=t)))),[]):=by
 have h:=aji t l E;have e:(l.any λx=>!decide (x=t))=!(l.all λx=>decide (x=t)):=by rw[List.all_eq_not_any_not];simp
 rw[e]at h;rw[anQ (by simp)];simp[f304,h]
theorem GU(v:Vr):ag ctx 274 [.d (aW v)] []=some (.ret (.d (.bool (decide (2<v.ty)))),[]):=by
 rw[anx (by simp)];simp[f274,aW,dx]
theorem avF:ag ctx 54 [.d (.int .i64 10)] []=some (.ret (.d (.list ((cG 10).map eY))),[]):=dc 120 (by kernel_rfl)
theorem avG:ag ctx 54 [.d (.int .i64 11)] []=some (.ret (.d (.list ((cG 11).map eY))),[]):=dc 120 (by kernel_rfl)
theorem avH:ag ctx 54 [.d (.int .i64 12)] []=some (.ret (.d (.list ((cG 12).map eY))),[]):=dc 120 (by kernel_rfl)
theorem avI:ag ctx 54 [.d (.int .i64 13)] []=some (.ret (.d (.list ((cG 13).map eY))),[]):=dc 120 (by kernel_rfl)
theorem avJ:ag ctx 54 [.d (.int .i64 14)] []=some (.ret (.d (.list ((cG 14).map eY))),[]):=dc 120 (by kernel_rfl)
theorem avK:ag ctx 54 [.d (.int .i64 15)] []=some (.ret (.d (.list ((cG 15).map eY))),[]):=dc 120 (by kernel_rfl)
theorem avL:ag ctx 54 [.d (.int .i64 16)] []=some (.ret (.d (.list ((cG 16).map eY))),[]):=dc 120 (by kernel_rfl)
theorem avM:ag ctx 54 [.d (.int .i64 17)] []=some (.ret (.d (.list ((cG 17).map eY))),[]):=dc 120 (by kernel_rfl)
theorem avN:ag ctx 54 [.d (.int .i64 18)] []=some (.ret (.d (.list ((cG 18).map eY))),[]):=dc 120 (by kernel_rfl)
theorem avO:ag ctx 54 [.d (.int .i64 20)] []=some (.ret (.d (.list ((cG 20).map eY))),[]):=dc 120 (by kernel_rfl)
theorem avP:ag ctx 54 [.d (.int .i64 21)] []=some (.ret (.d (.list ((cG 21).map eY))),[]):=dc 120 (by kernel_rfl)
theorem avQ:ag ctx 54 [.d (.int .i64 22)] []=some (.ret (.d (.list ((cG 22).map eY))),[]):=dc 120 (by kernel_rfl)
theorem avR:ag ctx 54 [.d (.int .i64 23)] []=some (.ret (.d (.list ((cG 23).map eY))),[]):=dc 120 (by kernel_rfl)
theorem avS:ag ctx 54 [.d (.int .i64 24)] []=some (.ret (.d (.list ((cG 24).map eY))),[]):=dc 120 (by kernel_rfl)
theorem avT:ag ctx 54 [.d (.int .i64 25)] []=some (.ret (.d (.list ((cG 25).map eY))),[]):=dc 120 (by kernel_rfl)
theorem avU:ag ctx 54 [.d (.int .i64 26)] []=some (.ret (.d (.list ((cG 26).map eY))),[]):=dc 120 (by kernel_rfl)
theorem avV:ag ctx 54 [.d (.int .i64 27)] []=some (.ret (.d (.list ((cG 27).map eY))),[]):=dc 120 (by kernel_rfl)
theorem avW:ag ctx 54 [.d (.int .i64 28)] []=some (.ret (.d (.list ((cG 28).map eY))),[]):=dc 120 (by kernel_rfl)
theorem avX:ag ctx 54 [.d (.int .i64 29)] []=some (.ret (.d (.list ((cG 29).map eY))),[]):=dc 120 (by kernel_rfl)
theorem avY:ag ctx 54 [.d (.int .i64 30)] []=some (.ret (.d (.list ((cG 30).map eY))),[]):=dc 120 (by kernel_rfl)
theorem avZ:ag ctx 54 [.d (.int .i64 31)] []=some (.ret (.d (.list ((cG 31).map eY))),[]):=dc 120 (by kernel_rfl)
def sn:D->Option Int
 | .agg [.int .i64 k,.str _,.str _,.str _,.int .i64 _]=>some k
 |_=>none
theorem F0{d:D}{k:Int}(h:sn d=some k):∃a b c n,d=.agg [.int .i64 k,.str a,.str b,.str c,.int .i64 n]:=by
 unfold sn at h;split at h
 ·rename_i A1 a b c n;cases h;exact⟨a,b,c,n,rfl⟩
 ·cases h
def UO:Option (Out×List (Nat×aD))->Option (List (Option Int))
 |some (.ret (.d (.list l)),[])=>some (l.map sn)
 |_=>none
theorem aov:UO (aO ctx 120 137 [] [])=some (iO.map some):=by kernel_rfl
theorem aeN:∃l:List D,ag ctx 137 [] []=some (.ret (.d (.list l)),[])/\l.map sn=iO.map some:=by
 have h:=aov;generalize V:aO ctx 120 137 [] []=r at h;unfold UO at h;split at h
 ·rename_i l;exact⟨l,dc 120 V,by simpa using h⟩
 ·cases h
theorem aeO(d:D)(k b:Int)(H:sn d=some k):ag ctx 139 [.d d,.ptr 0 0 0] [.box [.d (.int .i64 b)]]=some (.ret (.d (.bool (decide (k=b)))),[(0,.box [.d (.int .i64 b)])]):=by
 obtain⟨a,e,c,n,rfl⟩:=F0 H;rw[aby (by simp)];simp[f139]
theorem F2(b:Int):∀(rest pre:List D),(∀d∈rest,∃k,sn d=some k/\k≠b)->(pre++rest).length<1000->∀k:Kt,
 aZ ctx 138 (.loop (Code.at (bg f138) [1,0,1,0,0])) ⟨19,aX,[(0,true,.d (.list (pre++rest))),(1,true,.fn 139 [.ptr 0 0 0]),(7,true,.d (.int .i64 (pre++rest).length)),(8,true,.d (.int .i64 pre.length))],[⟨0,0,.box [.d (.int .i64 b)]⟩]⟩ k=
  k (.exit 0) ⟨19,aX,[(0,true,.d (.list (pre++rest))),(1,true,.fn 139 [.ptr 0 0 0]),(7,true,.d (.int .i64 (pre++rest).length)),(8,true,.d (.int .i64 (pre++rest).length)),(9,true,.d (.bool false))],[⟨0,0,.box [.d (.int .i64 b)]⟩]⟩
 |[],pre,h,I,k=>by
  rw[ai];simp[f138]
 |d::rest,pre,h,I,k=>by
  obtain⟨O,J,W⟩:=h d (by simp);have T:=aeO d O b J;obtain⟨Y,a2,a3,a4,rfl⟩:=F0 J;have ih:=F2 b rest (pre++[.agg [.int .i64 O,.str Y,.str a2,.str a3,.int .i64 a4]]) (λd H=>h d (by simp[H])) (by simpa using I) k;have M:(pre.length:Int)<pre.length+(rest.length+1):=by omega
  have Z:IntKind.i64.wrap ((pre.length:Int)+1)=pre.length+1:=aB (by unfold bq;simp at I;omega);simp[W]at T;rw[ai];simp[f138]at ih⊢;simp[M,Z,T,ih]
theorem Y6(b:Int)(E:b∉iO):ag ctx 54 [.d (.int .i64 b)] []=some (.ret (.d (.list [])),[]):=by
 obtain⟨l,I,hm⟩:=aeN;have A2:l.length=21:=by have:=ahS List.length hm;simpa [iO]using this
 have y:∀d∈l,∃k,sn d=some k/\k≠b:=by
  intro d H;have M:sn d∈l.map sn:=ab0 H;rw[hm]at M;obtain⟨k,J,he⟩:=abV.1 M;exact⟨k,he.symm,λh=>E (h▸J)⟩
 have U:=F2 b l [] y (by simp;omega);have A':ag ctx 138 [.d (.list l),.fn 139 [.ptr 0 0 0]] [.box [.d (.int .i64 b)]]=some (.ret (.d (.int .i64 (-1))),[(0,.box [.d (.int .i64 b)])]):=by
  rw[Oo (by simp)];simp[f138]at U⊢;simp[U]
 have A0:ag ctx 89 [.d (.int .i64 b)] []=some (.ret (.aY [.d (.agg [.int .i64 0,.str [],.str [],.str [],.int .i64 0]),.d (.bool false)]),[]):=by
  rw[ahD (by simp)];simp[f89,I,A']
 rw[ahC (by simp)];simp[f54,A0]
theorem JO(b:Int):ag ctx 54 [.d (.int .i64 b)] []=some (.ret (.d (.list ((cG b).map eY))),[]):=by
 by_cases E:b∈iO
 ·simp only[iO,aaC,afQ,aon]at E;rcases E with rfl|rfl|rfl|rfl|rfl|rfl|rfl|rfl|rfl|rfl|rfl|rfl|rfl|rfl|rfl|rfl|rfl|rfl|rfl|rfl|rfl
  ·exact avF
  ·exact avG
  ·exact avH
  ·exact avI
  ·exact avJ
  ·exact avK
  ·exact avL
  ·exact avM
  ·exact avN
  ·exact avO
  ·exact avP
  ·exact avQ
  ·exact avR
  ·exact avS
  ·exact avT
  ·exact avU
  ·exact avV
  ·exact avW
  ·exact avX
  ·exact avY
  ·exact avZ
 ·rw[sl E];exact Y6 b E
def vrZ:Vr:=⟨[],0,0,false,0,0,0,0⟩
def fV(vs:List Vr)(s:Tx):Vr:=(bE vs s).getD vrZ
def pnZ:Pn:=⟨[],0,false⟩
def fP(k:Int)(s:Tx):Pn:=(pt k s).getD pnZ
def bF(vs:List Vr)(n:Int):List (Nat×aD):=[(0,.box [.vec 1 0 0 vs.length,.d (.int .i64 n)]),(0,.vec 8 (vs.map aW))]
theorem qE{vs:List Vr}{n:Int}(W:vs.length<1000000)(s:Tx)(line:Int):ag ctx 271 [.ptr 0 0 0,.d (.str s),.d (.int .i64 line)] [.box [.vec 1 0 0 vs.length,.d (.int .i64 n)],.vec 8 (vs.map aW)]=
 if (bE vs s).isSome=true then some (.ret (.d (aW (fV vs s))),bF vs n)else some (.panic 233 (lY 9 line),bF vs n):=by
 have hi:=ajd s vs W;have E:=GS (λv:Vr=>decide (v.name=s)) vs [];have J:=DT (λv:Vr=>decide (v.name=s)) vs 0;rw[ahP]at J;simp only[aaw,afR,O7]at E;generalize c9 (λv:Vr=>decide (v.name=s)) vs 0=j at*;rw[anv (by simp)];by_cases D:0<=j
 ·obtain⟨v,H,M,I⟩:=E D;have O:vs[j.toNat]=v:=by rw[abJ I]at H;simpa using H
  simp[f271,hi,cR,D,I,O,M,fV,bF,aW,dx]
 ·have T:(bE vs s).isSome=false:=by simpa using λh=>D (J.2 h)
  simp[f271,hi,cR,D,T,bF]
theorem ab5(v:Vr)(s:Tx):ag ctx 275 [.d (aW v),.d (.str s)] []=some (.ret (.aY [.d (eY (fP v.ty s)),.d (.bool (pt v.ty s).isSome)]),[]):=by
 have V:=JO v.ty;have y:=DS v.ty;have hi:=ajg s (cG v.ty) (by omega);have E:=GS (λp:Pn=>decide (p.name=s)&&!decide (s=[])) (cG v.ty) [];have J:=DT (λp:Pn=>decide (p.name=s)&&!decide (s=[])) (cG v.ty) 0;simp only[aaw,afR,O8]at E;have he:pt v.ty s=xA (cG v.ty) s:=rfl;have A':=lX (λp:Pn=>decide (p.name=s)&&!decide (s=[])) (cG v.ty) 0;have T:(xA (cG v.ty) s).isSome=(cG v.ty).any (λp:Pn=>decide (p.name=s)&&!decide (s=[])):=by
  rw[<-O8,Bool.eq_iff_iff,List.find?_isSome,List.any_eq_true]
 rw[he];unfold fP;rw[he];generalize cG v.ty=l at*;generalize c9 (λp:Pn=>decide (p.name=s)&&!decide (s=[])) l 0=j at*;rw[anz (by simp)];by_cases D:0<=j
 ·obtain⟨p,H,M,I⟩:=E D;have O:l[j.toNat]=p:=by rw[abJ I]at H;simpa using H
  have U:¬j<0:=by omega
  simp[f275,hi,V,D,U,I,O,M,eY,aW,dx]
 ·have Y:(xA l s).isSome=false:=by rw[T];simpa using λh=>D (J.2 h)
  have Z:xA l s=none:=by simpa using Y
  have U:j<0:=by omega
  simp[f275,hi,V,D,U,Z,eY,pnZ,aW,dx]
end Go.Am
end
section
namespace Go.Am
open Go Go.Proofs
variable [Inhabited bV]
set_option maxRecDepth 20000
mutual
def lnX:Ex->Prop
 | .mk _ _ name field sub _=>(name.length<100000000/\field.length<100000000/\sub.length<100000000)/\JP sub
def JP:List Ex->Prop
 |[]=>True
 |x::r=>lnX x/\JP r
end
end Go.Am
end
section
namespace Go.Am
open Go Go.Proofs Go.Proofs.Tryz
variable [Inhabited bV]
set_option maxRecDepth 20000
def zD(vs:List Vr):List Ex->Option Te
 |[]=>none
 |x::r=>if (bm vs x).e=0 then zD vs r else some (bm vs x)
def BB(R:bN)(I:Int->Int->bN):Option Te->bN
 |none=>R
 |some t=>I t.e t.line
def KX(vs:List Vr)(n:Int)(y:Ex):Prop:=ag ctx 273 [.ptr 0 0 0,.d (.agg [.int .i64 (dj y),.int .i64 (nQ y),.str (gT y),.str (nR y),.list ((ic y).map bK),.int .i64 (iX y)])] [.box [.vec 1 0 0 vs.length,.d (.int .i64 n)],.vec 8 (vs.map aW)]=
 if (bm vs y).e=0 then some (.ret (.d (.int .i64 (bm vs y).t)),bF vs n)else some (.panic 233 (lY (bm vs y).e (bm vs y).line),bF vs n)
theorem F3{vs:List Vr}{n:Int}(l:List Ex)(E:l.length<1000000)(U:∀y∈l,KX vs n y)(J:cq)(O:J.key=250)(k:Kt)(R:bN)(I:Int->Int->bN)
 (V:∀env v1 v2 Y D e W,k (.panic 233 (lY e W)) ⟨23,aX,env,[⟨0,0,.box [.vec 1 0 0 vs.length,.d (.int .i64 n)]⟩,⟨1,0,.vec 8 (vs.map aW)⟩,J,⟨350,v1,Y⟩,⟨450,v2,D⟩]⟩=I e W)
 (M:∀v1 v2 D,k (.exit 0) ⟨23,aX,[(0,true,.ptr 0 0 0),(5,true,.vec 350 v1 0 l.length),(9,true,.d (.list (l.map bK))),(10,true,.d (.int .i64 l.length)),(11,true,.d (.int .i64 l.length)),(12,true,.d (.bool false))],[⟨0,0,.box [.vec 1 0 0 vs.length,.d (.int .i64 n)]⟩,⟨1,0,.vec 8 (vs.map aW)⟩,J,⟨350,v1,.vec 1 (l.map λy=>.int .i64 (bm vs y).t)⟩,⟨450,v2,D⟩]⟩=R):
 ∀(rest pre:List Ex)(v1 v2:Nat)(D:aD),l=pre++rest->
 aZ ctx 303 (.loop (Code.at (bg f303) [1,1,0,1,0,0])) ⟨23,aX,[(0,true,.ptr 0 0 0),(5,true,.vec 350 v1 0 pre.length),(9,true,.d (.list (l.map bK))),(10,true,.d (.int .i64 l.length)),(11,true,.d (.int .i64 pre.length))],[⟨0,0,.box [.vec 1 0 0 vs.length,.d (.int .i64 n)]⟩,⟨1,0,.vec 8 (vs.map aW)⟩,J,⟨350,v1,.vec 1 (pre.map λy=>.int .i64 (bm vs y).t)⟩,⟨450,v2,D⟩]⟩ k=BB R I (zD vs rest)
 |[],pre,v1,v2,D,H=>by
  have M:=M v1 v2 D;simp at H;subst H;rw[ai];simp[f303,zD,BB,M]
 |y::rest,pre,v1,v2,D,H=>by
  have ih:=λv1 v2 D=>F3 l E U J O k R I V M rest (pre++[y]) v1 v2 D (by simp[H]);have T:KX vs n y:=U y (by rw[H];simp);unfold KX at T;have Z:(pre.length:Int)<pre.length+(rest.length+1):=by omega
  have A':IntKind.i64.wrap ((pre.length:Int)+1)=pre.length+1:=aB (by unfold bq;rw[H]at E;simp at E;omega);have A0:pre.length+1<=4611686018427387904:=by rw[H]at E;simp at E;omega
  have A1:(pre.length+1)*8<=140737488355328:=by rw[H]at E;simp at E;omega
  subst H;rw[ai];unfold zD;by_cases he:(bm vs y).e=0
  ·simp[he]at T;simp[f303,aK]at ih⊢;simp[Z,A',A0,A1,O,T,he,aK,bF,ih]
  ·simp[he]at T;simp[f303,aK]at ih⊢;simp[Z,A',A0,A1,O,T,he,aK,bF,V,BB]
theorem O9{vs:List Vr}{n:Int}(x:Ex)(E:(ic x).length<1000000)(U:∀y∈ic x,KX vs n y):ag ctx 303 [.ptr 0 0 0,.d (.agg [.int .i64 (dj x),.int .i64 (nQ x),.str (gT x),.str (nR x),.list ((ic x).map bK),.int .i64 (iX x)])] [.box [.vec 1 0 0 vs.length,.d (.int .i64 n)],.vec 8 (vs.map aW)]=
 BB (some (.ret (.d (.list ((ic x).map λy=>.int .i64 (bm vs y).t))),bF vs n)) (λe l=>some (.panic 233 (lY e l),bF vs n)) (zD vs (ic x)):=by
 have h:=λJ O k R I V M v1 v2 D=>F3 (vs:=vs) (n:=n) (ic x) E U J O k R I V M (ic x) [] v1 v2 D rfl;rw[anP (by simp)];simp[f303]at h⊢;rw[h _ rfl]
 ·intro env v1 v2 Y D e W;simp[bF]
 ·intro v1 v2 D;simp[bF]
section
variable {vs:List Vr} {n:Int}
theorem DU{y:Ex}(D:KX vs n y):ag ctx 236 [.ptr 0 0 0,.d (.agg [.int .i64 (dj y),.int .i64 (nQ y),.str (gT y),.str (nR y),.list ((ic y).map bK),.int .i64 (iX y)])] [.box [.vec 1 0 0 vs.length,.d (.int .i64 n)],.vec 8 (vs.map aW)]=
 if (cu vs y 1).1=0 then some (.ret (.aY []),bF vs n)else some (.panic 233 (lY (cu vs y 1).1 (cu vs y 1).2),bF vs n):=by
 unfold KX at D;rw[anb (by simp)];by_cases h:(bm vs y).e=0
 ·simp[h]at D;by_cases T:(bm vs y).t=1
  ·simp[f236,D,cR,bF,aq,cu,h,T]
  ·simp[f236,D,cR,bF,aq,cu,h,T]
 ·simp[h]at D;simp[f236,D,cR,bF,aq,cu,h]
theorem GW{y:Ex}(D:KX vs n y):ag ctx 238 [.ptr 0 0 0,.d (.agg [.int .i64 (dj y),.int .i64 (nQ y),.str (gT y),.str (nR y),.list ((ic y).map bK),.int .i64 (iX y)])] [.box [.vec 1 0 0 vs.length,.d (.int .i64 n)],.vec 8 (vs.map aW)]=
 if (cu vs y 2).1=0 then some (.ret (.aY []),bF vs n)else some (.panic 233 (lY (cu vs y 2).1 (cu vs y 2).2),bF vs n):=by
 unfold KX at D;rw[anc (by simp)];by_cases h:(bm vs y).e=0
 ·simp[h]at D;by_cases T:(bm vs y).t=2
  ·simp[f238,D,cR,bF,aq,cu,h,T]
  ·simp[f238,D,cR,bF,aq,cu,h,T]
 ·simp[h]at D;simp[f238,D,cR,bF,aq,cu,h]
def xD(vs:List Vr)(v:Vr)(x:Ex):Te:=if v.arr≠decide (dj x=4)\/2<v.ty then fe 10 (iX x)else if dj x=4 then vA vs v.ty (ic x)else jv v.ty
def oh(vs:List Vr)(n:Int)(t:Te):Option (Out×List (Nat×aD)):=if t.e=0 then some (.ret (.d (.int .i64 t.t)),bF vs n)else some (.panic 233 (lY t.e t.line),bF vs n)
theorem Pa{v:Vr}(Y:v.arr=true->v.ty<=2){x:Ex}(Z:dj x=4->∃y,ic x=[y]/\KX vs n y):ag ctx 272 [.ptr 0 0 0,.d (aW v),.d (.agg [.int .i64 (dj x),.int .i64 (nQ x),.str (gT x),.str (nR x),.list ((ic x).map bK),.int .i64 (iX x)])] [.box [.vec 1 0 0 vs.length,.d (.int .i64 n)],.vec 8 (vs.map aW)]=
 oh vs n (xD vs v x):=by
 have M:=GU v;rw[anw (by simp)];by_cases J:dj x=4
 ·obtain⟨y,D,A'⟩:=Z J;have U:=DU A';by_cases E:v.arr=true
  ·have O:¬2<v.ty:=by have:=Y E;omega
   have e:xD vs v x=vA vs v.ty [y]:=by simp[xD,J,E,O,D]
   rw[e];by_cases hw:(cu vs y 1).1=0
   ·simp[hw]at U;have W:vA vs v.ty [y]=jv v.ty:=by
     have H:=hw;unfold cu at H;unfold vA;split at H
     ·rename_i I;simp at H;exact absurd H I
     ·rename_i I;split at H
      ·simp at H
      ·rename_i V;rw[aab I,aab V]
    rw[W];simp[f272,aW,dx,J,E,D,U,cR,bF,aq,aK,oh,jv]
   ·simp[hw]at U;have W:vA vs v.ty [y]=fe (cu vs y 1).1 (cu vs y 1).2:=by
     have H:=hw;unfold cu at H⊢;unfold vA;split at H
     ·rename_i I;rw[aat I,aat I]
     ·rename_i I;rw[aab I,aab I];split at H
      ·rename_i V;rw[aat V,aat V]
      ·simp at H
    rw[W];simp[f272,aW,dx,J,E,D,U,cR,bF,aq,aK,oh,fe,hw]
  ·have E:v.arr=false:=by simpa using E
   simp[f272,aW,dx,J,E,cR,bF,aq,oh,xD,fe]
 ·simp[aW,dx]at M;cases E:v.arr with
  |true=>simp[f272,aW,dx,J,E,cR,bF,aq,oh,xD,fe]
  |false=>
   rw[E]at M;by_cases O:2<v.ty
   ·simp[O]at M;simp[f272,aW,dx,J,E,M,cR,bF,aq,oh,xD,fe,O]
   ·simp[O]at M;simp[f272,aW,dx,J,E,M,cR,bF,aq,oh,xD,jv,O]
end
section
variable {vs:List Vr} {n:Int} (A2:vs.length<1000000)
def LD(vs:List Vr)(x:Ex):Te:=match bE vs (gT x)with
 |none=>fe 9 (iX x)
 |some v=>if v.ty<=2 then fe 10 (iX x)else match pt v.ty (nR x)with
  |none=>fe 9 (iX x)
  |some p=>jv p.ty
include A2
theorem aeQ(x:Ex):ag ctx 302 [.ptr 0 0 0,.d (.agg [.int .i64 (dj x),.int .i64 (nQ x),.str (gT x),.str (nR x),.list ((ic x).map bK),.int .i64 (iX x)])] [.box [.vec 1 0 0 vs.length,.d (.int .i64 n)],.vec 8 (vs.map aW)]=
 oh vs n (LD vs x):=by
 have I:=qE (n:=n) A2 (gT x) (iX x);rw[anO (by simp)];cases J:bE vs (gT x)with
 |none=>
  simp[J]at I;simp[f302,I,bF,oh,LD,J,fe]
 |some v=>
  have H:=GU v;have D:=ab5 v (nR x);simp[J,fV,aW,dx]at I H D;by_cases A0:2<v.ty
  ·have y:¬v.ty<=2:=by omega
   cases A':pt v.ty (nR x)with
   |none=>
    simp[A',fP,eY,pnZ]at D;simp[f302,I,H,D,cR,bF,aq,oh,LD,J,fe,A0,y,A',aW,dx]
   |some p=>
    simp[A',fP,eY]at D;simp[f302,I,H,D,cR,bF,aq,oh,LD,J,jv,A0,y,A',aW,dx]
  ·have y:v.ty<=2:=by omega
   simp[f302,I,H,cR,bF,aq,oh,LD,J,fe,A0,y,aW,dx]
theorem aow{op nn line:Int}{name field:Tx}{a:Ex}(A3:6<=op)(A1:KX vs n a):KX vs n (.mk op nn name field [a] line):=by
 have D:=O9 (vs:=vs) (n:=n) (.mk op nn name field [a] line) (by simp) (by simpa using A1);have e:bm vs (.mk op nn name field [a] line)=si op line (bm vs a) (bm vs a):=by
  conv=>lhs;unfold bm
  rw[aab (by omega),aab (by omega)];simp only[sI]
 have M:¬op=1:=by omega
 have O:¬op=2:=by omega
 have T:¬op=3:=by omega
 have U:¬op=4:=by omega
 have V:¬op=5:=by omega
 have W:=wh [(bm vs a).t] 1 (by simp);have Y:=wh [(bm vs a).t] 2 (by simp);have Z:=wh [(bm vs a).t] (bm vs a).t (by simp);unfold KX;rw[e];simp only[iN,pq,pr,uJ,kX,qy]at D⊢;rw[Af (by simp)];by_cases E:(bm vs a).e=0
 ·simp[zD,E,BB]at D W Y Z;simp[f273,D,W,Y,Z,cR,bF,aq,M,O,T,U,V,si,E,pv,q8,fe,jv];grind
 ·simp[zD,E,BB]at D;simp[f273,D,bF,aq,M,O,T,U,V,si,E]
theorem aoy{op nn line:Int}{name field:Tx}{a b:Ex}(A3:6<=op)(A1:KX vs n a)(A4:KX vs n b):KX vs n (.mk op nn name field [a,b] line):=by
 have D:=O9 (vs:=vs) (n:=n) (.mk op nn name field [a,b] line) (by simp) (by simp[A1,A4]);have e:bm vs (.mk op nn name field [a,b] line)=si op line (bm vs a) (bm vs b):=by
  conv=>lhs;unfold bm
  rw[aab (by omega),aab (by omega)];simp only[sI]
 have M:¬op=1:=by omega
 have O:¬op=2:=by omega
 have T:¬op=3:=by omega
 have U:¬op=4:=by omega
 have V:¬op=5:=by omega
 have W:=wh [(bm vs a).t,(bm vs b).t] 1 (by simp);have Y:=wh [(bm vs a).t,(bm vs b).t] 2 (by simp);have Z:=wh [(bm vs a).t,(bm vs b).t] (bm vs a).t (by simp);unfold KX;rw[e];simp only[iN,pq,pr,uJ,kX,qy]at D⊢;rw[Af (by simp)];by_cases E:(bm vs a).e=0
 ·by_cases H:(bm vs b).e=0
  ·simp[zD,E,H,BB]at D W Y Z;simp[f273,D,W,Y,Z,cR,bF,aq,M,O,T,U,V,si,E,H,pv,q8,fe,jv];grind
  ·simp[zD,E,H,BB]at D;simp[f273,D,bF,aq,M,O,T,U,V,si,E,H]
 ·simp[zD,E,BB]at D;simp[f273,D,bF,aq,M,O,T,U,V,si,E]
end
end Go.Am
end
section
namespace Go.Am
open Go
theorem UP{k:Int}(h:tV k=true):10<=k/\k<=31:=by
 unfold tV cG at h;by_cases D:10<=k/\k<=31
 ·exact D
 ·exfalso;have:By pnT k=[]:=by
   unfold pnT;simp only[By];repeat rw[aab (by omega)]
  rw[this]at h;simp at h
theorem UQ{v:Vr}(h:dN v=true):(v.ty=1\/v.ty=2)\/(10<=v.ty/\v.ty<=31/\tV v.ty=true):=by
 simp only[dN,Ds,ahR,aak]at h;rcases h.2.1.2 with h|h
 ·exact .inl h
 ·exact .inr ⟨(UP h).1,(UP h).2,h⟩
theorem rD{s:Tx}{v:Vr}:∀{l:List Vr},bE l s=some v->v∈l/\v.name=s
 |x::r,h=>by
  unfold bE at h;split at h
  ·rename_i e;cases h;exact⟨by simp,e⟩
  ·have:=rD h;exact⟨by simp[this.1],this.2⟩
end Go.Am
end
section
namespace Go.Am
open Go Go.Proofs Go.Proofs.Tryz
variable [Inhabited bV]
set_option maxRecDepth 20000
section
variable {vs:List Vr} {n:Int} (H:vs.length<1000000) (O:∀v∈vs,dN v=true)
include H O
omit H O in
theorem UR{v:Vr}(h:dN v=true):v.arr=true->v.ty<=2:=by
 intro U;simp only[dN,Ds,U,acH,aak]at h;omega
omit H O in
theorem aoA{op nn line:Int}{name field:Tx}{sub:List Ex}(h:op=1\/op=2):KX vs n (.mk op nn name field sub line):=by
 unfold KX;have e:bm vs (.mk op nn name field sub line)=jv op:=by
  conv=>lhs;unfold bm
  rw[aat h]
 rw[e];simp only[iN,pq,pr,uJ,kX,qy];rw[Af (by simp)];rcases h with rfl|rfl
 ·simp[f273,bF,aq,jv]
 ·simp[f273,bF,aq,jv]
theorem ajj{op nn line:Int}{name field:Tx}{sub:List Ex}(h:op=3\/op=4)(V:op=4->∃y,sub=[y]/\KX vs n y):KX vs n (.mk op nn name field sub line):=by
 have I:=qE (n:=n) H name line;have e:bm vs (.mk op nn name field sub line)=match bE vs name with|none=>fe 9 line|some v=>xD vs v (.mk op nn name field sub line):=by
  conv=>lhs;unfold bm
  rw[aab (by omega),aat (by omega)];cases bE vs name with
  |none=>rfl
  |some v=>
   simp only[xD,iN,qy,kX];rw[aab (by omega)];rfl
 unfold KX;rw[e];cases D:bE vs name with
 |none=>
  simp[D]at I;simp only[iN,pq,pr,uJ,kX,qy];rw[Af (by simp)];rcases h with rfl|rfl
  ·simp[f273,I,bF,aq,fe]
  ·simp[f273,I,bF,aq,fe]
 |some v=>
  have J:=Pa (vs:=vs) (n:=n) (v:=v) (x:=.mk op nn name field sub line) (UR (O v (rD D).1)) V;simp[D,fV,aW,dx]at I J;simp only[iN,pq,pr,uJ,kX,qy]at J⊢;generalize xD vs v (.mk op nn name field sub line)=t at*;rw[Af (by simp)];by_cases E:t.e=0
  ·simp[oh,E]at J;rcases h with rfl|rfl
   ·simp[f273,I,J,bF,aq,aW,dx,E]
   ·simp[f273,I,J,bF,aq,aW,dx,E]
  ·simp[oh,E]at J;rcases h with rfl|rfl
   ·simp[f273,I,J,bF,aq,aW,dx,E]
   ·simp[f273,I,J,bF,aq,aW,dx,E]
theorem ab7{nn line:Int}{name field:Tx}{sub:List Ex}:KX vs n (.mk 5 nn name field sub line):=by
 have D:=aeQ (n:=n) H (.mk 5 nn name field sub line);have e:bm vs (.mk 5 nn name field sub line)=LD vs (.mk 5 nn name field sub line):=by
  conv=>lhs;unfold bm
  rw[aab (by omega),aat (by omega)];simp only[LD,pr,qy,uJ];cases bE vs name with
  |none=>rfl
  |some v=>simp only[acH];try rfl
 unfold KX;rw[e];simp only[iN,pq,pr,uJ,kX,qy]at D⊢;generalize LD vs (.mk 5 nn name field sub line)=t at*;rw[Af (by simp)];by_cases E:t.e=0
 ·simp[oh,E]at D;simp[f273,D,bF,aq,E]
 ·simp[oh,E]at D;simp[f273,D,bF,aq,E]
mutual
theorem wi:∀x:Ex,bn x=true->KX vs n x
 | .mk op nn name field sub line,D=>by
  simp only[bn,Ds,aak,ahK,afP]at D;obtain⟨A4,M,_,_,W⟩:=D;have ih:=GX sub W;unfold eV at M;by_cases Y:op=1\/op=2
  ·exact aoA Y
  ·by_cases Z:op=5
   ·subst Z;exact ab7 H O
   ·by_cases A':op=3\/op=4
    ·refine ajj H O A' (λA0=>?_);rw[aat (.inl A0)]at M;match sub,M with
     |[y],_=>exact⟨y,rfl,ih y (by simp)⟩
    ·by_cases A1:op=6\/op=7
     ·rw[aat (.inr A1)]at M;match sub,M with
      |[y],_=>exact aow H (by omega) (ih y (by simp))
     ·rw[aab (by omega),aat (by omega)]at M;match sub,M with
      |[y,z],_=>exact aoy H (by omega) (ih y (by simp)) (ih z (by simp))
theorem GX:∀l:List Ex,bQ l=true->∀y∈l,KX vs n y
 |[],_,y,T=>by simp at T
 |x::r,D,y,T=>by
  simp only[bQ,Ds]at D;have A2:=wi x D.1;have A3:=GX r D.2;rcases aaC.1 T with h|T
  ·rw[h];exact A2
  ·exact A3 y T
end
end
@[simp] def LF(x:Sm):List D:=[.int .i64 (gd x),.str (lU x),
 .int .i64 (dj (fR x)),.int .i64 (nQ (fR x)),.str (gT (fR x)),.str (nR (fR x)),.list ((ic (fR x)).map bK),.int .i64 (iX (fR x)),
 .int .i64 (dj (gB x)),.int .i64 (nQ (gB x)),.str (gT (gB x)),.str (nR (gB x)),.list ((ic (gB x)).map bK),.int .i64 (iX (gB x)),
 .list ((dQ x).map bK),.list ((u5 x).map p7),.list ((je x).map .str),.list ((cY x).map cL),.int .i64 (oF x)]
def bZ(vs:List Vr)(n AA:Int)(e:EL):Option (Out×List (Nat×aD)):=if e.1=0 then some (.ret (.aY []),bF vs n)else some (.panic 233 (lY e.1 e.2),bF vs AA)
theorem aoC{vs:List Vr}{x:Ex}{v:Vr}(h:dj x=3\/dj x=4)(E:bE vs (gT x)=some v):bm vs x=xD vs v x:=by
 obtain⟨op,nn,name,field,sub,line⟩:=x;simp only[iN,pr]at h E;conv=>lhs;unfold bm
 rw[aab (by omega),aat (by omega),E];simp only[xD,iN,qy,kX];rw[aab (by omega)];rfl
section
variable {vs:List Vr} {n:Int} (A0:vs.length<1000000) (A1:∀v∈vs,dN v=true)
include A0 A1
theorem ab8{x:Sm}(AB:dj (fR x)=3\/dj (fR x)=4)(O:KX vs n (gB x))(AC:dj (fR x)=4->∃y,ic (fR x)=[y]/\KX vs n y):ag ctx 234 [.ptr 0 0 0,.d (.agg (LF x))] [.box [.vec 1 0 0 vs.length,.d (.int .i64 n)],.vec 8 (vs.map aW)]=
 bZ vs n n (yD vs (fR x) (gB x) (oF x)):=by
 have J:=qE (n:=n) A0 (gT (fR x)) (iX (fR x));unfold KX at O;rw[am9 (by simp)];cases E:bE vs (gT (fR x))with
 |none=>
  simp[E]at J;simp[f234,J,bF,bZ,yD,E]
 |some v=>
  have H:=Pa (vs:=vs) (n:=n) (v:=v) (x:=fR x) (UR (A1 v (rD E).1)) AC;have e:=aoC AB E;simp[E,fV,aW,dx]at J H;by_cases T:v.sec=1
  ·simp[f234,J,cR,bF,bZ,yD,E,T,aW,dx]
  ·have AD:yD vs (fR x) (gB x) (oF x)=dR (Lt (xD vs v (fR x))) (dR (Lt (bm vs (gB x))) (if (bm vs (gB x)).t≠(xD vs v (fR x)).t then (10,oF x)else (0,0))):=by
    unfold yD;rw[E];simp only
    rw[aab T,e]
   rw[AD];generalize xD vs v (fR x)=t at*;generalize bm vs (gB x)=t2 at*;by_cases U:t.e=0
   ·simp[oh,U]at H;by_cases V:t2.e=0
    ·simp[V]at O;by_cases he:t2.t=t.t
     ·simp[f234,J,H,O,cR,bF,aq,bZ,T,aW,dx,dR,Lt,U,V,he]
     ·simp[f234,J,H,O,cR,bF,aq,bZ,T,aW,dx,dR,Lt,U,V,he]
    ·simp[V]at O;simp[f234,J,H,O,cR,bF,aq,bZ,T,aW,dx,dR,Lt,U,V]
   ·simp[oh,U]at H;simp[f234,J,H,cR,bF,aq,bZ,T,aW,dx,dR,Lt,U]
omit A0 A1 in
theorem Cb(x:Sm)(A2:(dQ x).length<100000000)(A6:∀y∈dQ x,KX vs n y)(W Y:cq)(A3:W.key=250)(A4:Y.key=300)(v0:Nat)(k:Kt)(R:bN)(A5:EL->bN)
 (H:∀env v2 I e A7,k (.panic 233 (lY e A7)) ⟨47,aX,env,[⟨0,0,.box [.vec 1 0 0 vs.length,.d (.int .i64 n)]⟩,⟨1,0,.vec 8 (vs.map aW)⟩,W,Y,⟨400,v2,I⟩]⟩=A5 (e,A7))
 (Z:∀v2 I,k (.exit 0) ⟨47,aX,[(0,true,.ptr 0 0 0),(3,true,.ptr 250 v0 0),(31,true,.d (.list ((dQ x).map bK))),(32,true,.d (.int .i64 (dQ x).length)),(33,true,.d (.int .i64 (dQ x).length)),(34,true,.d (.bool false))],[⟨0,0,.box [.vec 1 0 0 vs.length,.d (.int .i64 n)]⟩,⟨1,0,.vec 8 (vs.map aW)⟩,W,Y,⟨400,v2,I⟩]⟩=R):
 ∀(rest pre:List Ex)(v2:Nat)(I:aD),dQ x=pre++rest->
 aZ ctx 237 (.loop (Code.at (bg f237) [1,1,1,1,0,1,0,0])) ⟨47,aX,[(0,true,.ptr 0 0 0),(3,true,.ptr 250 v0 0),(31,true,.d (.list ((dQ x).map bK))),(32,true,.d (.int .i64 (dQ x).length)),(33,true,.d (.int .i64 pre.length))],[⟨0,0,.box [.vec 1 0 0 vs.length,.d (.int .i64 n)]⟩,⟨1,0,.vec 8 (vs.map aW)⟩,W,Y,⟨400,v2,I⟩]⟩ k=if (lV vs 1 rest).1=0 then R else A5 (lV vs 1 rest)
 |[],pre,v2,I,M=>by
  have Z:=Z v2 I;simp at M;rw[M]at Z⊢;rw[ai];simp[f237,lV,Z]
 |y::rest,pre,v2,I,M=>by
  have ih:=λv2 I=>Cb x A2 A6 W Y A3 A4 v0 k R A5 H Z rest (pre++[y]) v2 I (by simp[M]);have A':=DU (A6 y (by rw[M];simp));have A8:(pre.length:Int)<pre.length+(rest.length+1):=by omega
  have A9:IntKind.i64.wrap ((pre.length:Int)+1)=pre.length+1:=aB (by unfold bq;rw[M]at A2;simp at A2;omega);rw[ai];unfold lV;rw[M]at ih⊢;by_cases he:(cu vs y 1).1=0
  ·simp[he]at A';have e:dR (cu vs y 1) (lV vs 1 rest)=lV vs 1 rest:=by unfold dR;rw[aab (by simp[he])]
   rw[e];simp[f237,aK]at ih⊢;simp[A8,A9,A3,A4,A',he,aK,bF,ih]
  ·simp[he]at A';have e:dR (cu vs y 1) (lV vs 1 rest)=cu vs y 1:=by unfold dR;rw[aat he]
   rw[e,aab he];simp[f237,aK]at ih⊢;simp[A8,A9,A3,A4,A',he,aK,bF,H]
end
theorem LG(s:Tx):∀(rest pre:List Tx),(pre++rest).length<100000000->∀k:Kt,
 aZ ctx 287 (.loop (Code.at (bg f287) [1,0,1,0,0])) ⟨19,aX,[(0,true,.d (.list ((pre++rest).map .str))),(1,true,.d (.str s)),(7,true,.d (.int .i64 (pre++rest).length)),(8,true,.d (.int .i64 pre.length))],[]⟩ k=
  if c9 (λx:Tx=>decide (s=x)) rest pre.length<0 then k (.exit 0) ⟨19,aX,[(0,true,.d (.list ((pre++rest).map .str))),(1,true,.d (.str s)),(7,true,.d (.int .i64 (pre++rest).length)),(8,true,.d (.int .i64 (pre++rest).length)),(9,true,.d (.bool false))],[]⟩
  else k .ret ⟨19,aX,[(4,true,.d (.int .i64 (c9 (λx:Tx=>decide (s=x)) rest pre.length)))],[]⟩
 |[],pre,D,k=>by
  rw[ai];simp[f287,c9]
 |x::rest,pre,D,k=>by
  have ih:=LG s rest (pre++[x]) (by simpa using D) k;have E:(pre.length:Int)<pre.length+(rest.length+1):=by omega
  have H:IntKind.i64.wrap ((pre.length:Int)+1)=pre.length+1:=aB (by unfold bq;simp at D;omega);have I:¬((pre.length:Int)<0):=by omega
  rw[ai];by_cases he:s=x
  ·have key:c9 (λx:Tx=>decide (s=x)) (x::rest) pre.length=pre.length:=by unfold c9;rw[aat (by simp[he])]
   rw[key];simp[f287,E,H,I,he]
  ·have key:c9 (λx:Tx=>decide (s=x)) (x::rest) pre.length=c9 (λx:Tx=>decide (s=x)) rest (pre.length+1):=by
    conv=>lhs;unfold c9
    rw[aab (by simp[he])]
   rw[key];simp[f287]at ih⊢;simp[E,H,he,ih]
theorem ajk(l:List Tx)(s:Tx)(D:l.length<100000000):ag ctx 256 [.d (.list (l.map .str)),.d (.str s)] []=some (.ret (.d (.bool (decide (s∈l)))),[]):=by
 have h:=λk=>LG s l [] (by simpa using D) k;have J:=DT (λx:Tx=>decide (s=x)) l 0;have M:=lX (λx:Tx=>decide (s=x)) l 0;have hi:ag ctx 287 [.d (.list (l.map .str)),.d (.str s)] []=some (.ret (.d (.int .i64 (c9 (λx:Tx=>decide (s=x)) l 0))),[]):=by
  rw[Oq (by simp)];simp[f287]at h⊢;simp[h];intro T;rcases M with E|E
  ·exact E.symm
  ·omega
 have e:decide (0<=c9 (λx:Tx=>decide (s=x)) l 0)=decide (s∈l):=by
  rw[akl,J,List.any_eq_true];constructor
  ·rintro ⟨x,O,h⟩;simp at h;subst h;exact O
  ·intro h;exact⟨s,h,by simp⟩
 rw[abF (by simp)];simp[f256,hi,e]
@[simp] def ie(x:Sm):aD:=.box [.d (.int .i64 (gd x)),.d (.str (lU x)),.d (.int .i64 (dj (fR x))),.d (.int .i64 (nQ (fR x))),.d (.str (gT (fR x))),.d (.str (nR (fR x))),.d (.list ((ic (fR x)).map bK)),.d (.int .i64 (iX (fR x))),
 .d (.int .i64 (dj (gB x))),.d (.int .i64 (nQ (gB x))),.d (.str (gT (gB x))),.d (.str (nR (gB x))),.d (.list ((ic (gB x)).map bK)),.d (.int .i64 (iX (gB x))),.d (.list ((dQ x).map bK)),.d (.list ((u5 x).map p7)),.d (.list ((je x).map .str)),.d (.list ((cY x).map cL)),.d (.int .i64 (oF x))]
@[simp] def xE(v:Vr):aD:=.box [.d (.str v.name),.d (.int .i64 v.ty),.d (.int .i64 v.sec),.d (.bool v.arr),.d (.int .i64 v.lo),.d (.int .i64 v.hi),.d (.int .i64 v.init),.d (.int .i64 v.line)]
theorem GY{v:Vr}(E:dN v=true):ag ctx 72 [.d (aW v)] []=some (.ret (.d (.int .i64 (bO v))),[]):=by
 have I:=JO v.ty;rw[arv (by simp)];unfold bO;cases D:v.arr with
 |true=>
  simp only[dN,Ds,D,acH,aak]at E;have J:IntKind.i64.wrap (v.hi-v.lo)=v.hi-v.lo:=aB (by unfold bq;omega);have M:IntKind.i64.wrap (v.hi-v.lo+1)=v.hi-v.lo+1:=aB (by unfold bq;omega);simp[f72,aW,dx,D,J,M]
 |false=>
  by_cases H:2<v.ty
  ·simp[f72,aW,dx,D,H,I]
  ·simp[f72,aW,dx,D,H]
theorem tY{v:Vr}(E:dN v=true):0<=bO v/\bO v<=256:=by
 have:=DS v.ty;unfold bO;cases D:v.arr with
 |true=>
  simp only[dN,Ds,D,acH,aak]at E;simp only[acH];omega
 |false=>
  simp only[acW,acw];split<;>omega
section
variable {vs:List Vr} {n:Int} (AA:vs.length<1000000) (AB:∀v∈vs,dN v=true)
def LH(vs:List Vr)(n:Int)(l:List Sm):Prop:=∃H,ag ctx 103 [.ptr 0 0 0,.d (.list (l.map bX))] [.box [.vec 1 0 0 vs.length,.d (.int .i64 n)],.vec 8 (vs.map aW)]=bZ vs n H (fm vs (decide (0<n)) l)
def KM(vs:List Vr)(n:Int)(x:Sm):Prop:=∃H,ag ctx 172 [.ptr 0 0 0,.d (.agg (LF x))] [.box [.vec 1 0 0 vs.length,.d (.int .i64 n)],.vec 8 (vs.map aW)]=bZ vs n H (mu vs (decide (0<n)) x)
theorem JR{b:List Sm}(AJ:0<=n)(AK:n<100000000)(A0:LH vs (n+1) b):∃H,ag ctx 239 [.ptr 0 0 0,.d (.list (b.map bX))] [.box [.vec 1 0 0 vs.length,.d (.int .i64 n)],.vec 8 (vs.map aW)]=bZ vs n H (fm vs true b):=by
 obtain⟨H,h⟩:=A0;refine⟨H,?_⟩;have AC:IntKind.i64.wrap (n+1)=n+1:=aB (by unfold bq;omega);have O:IntKind.i64.wrap (n+1-1)=n:=by rw[show n+1-1=n by omega];exact aB (by unfold bq;omega)
 have e:decide (0<n+1)=true:=by simp;omega
 have AD:IntKind.i64.wrap n=n:=aB (by unfold bq;omega);rw[e]at h;rw[ane (by simp)];generalize fm vs true b=E at*;by_cases I:E.1=0
 ·simp[bZ,I]at h;simp[f239,AC,O,AD,h,bF,bZ,I]
 ·simp[bZ,I]at h;simp[f239,AC,O,AD,h,bF,bZ,I]
include AA AB
omit AA AB in
theorem xF(x:Sm)(AE:(cY x).length<100000000)(A0:∀b∈cY x,LH vs n b)(A7:∀y∈dQ x,KX vs n y)(v0:Nat)(k:Kt)(R:bN)(A5:EL->Int->bN)
 (Z:∀env e AF H,k (.panic 233 (lY e AF)) ⟨30,aX,env,[⟨0,0,.box [.vec 1 0 0 vs.length,.d (.int .i64 H)]⟩,⟨1,0,.vec 8 (vs.map aW)⟩,⟨250,v0,ie x⟩]⟩=A5 (e,AF) H)
 (A6:k (.exit 0) ⟨30,aX,[(0,true,.ptr 0 0 0),(3,true,.ptr 250 v0 0),(7,true,.d (.list ((cY x).map cL))),(8,true,.d (.int .i64 (cY x).length)),(9,true,.d (.int .i64 (cY x).length)),(10,true,.d (.bool false))],[⟨0,0,.box [.vec 1 0 0 vs.length,.d (.int .i64 n)]⟩,⟨1,0,.vec 8 (vs.map aW)⟩,⟨250,v0,ie x⟩]⟩=R):
 ∀(J D:List (List Sm))(rc T:List Ex),cY x=D++J->dQ x=T++rc->(T.length=D.length\/(rc=[]/\T.length<=D.length))->
 ∃H,aZ ctx 235 (.loop (Code.at (bg f235) [1,1,0,0])) ⟨30,aX,[(0,true,.ptr 0 0 0),(3,true,.ptr 250 v0 0),(7,true,.d (.list ((cY x).map cL))),(8,true,.d (.int .i64 (cY x).length)),(9,true,.d (.int .i64 D.length))],[⟨0,0,.box [.vec 1 0 0 vs.length,.d (.int .i64 n)]⟩,⟨1,0,.vec 8 (vs.map aW)⟩,⟨250,v0,ie x⟩]⟩ k=if (gD vs (decide (0<n)) rc J).1=0 then R else A5 (gD vs (decide (0<n)) rc J) H
 |[],D,rc,T,V,M,hi=>by
  refine⟨0,?_⟩;have e:gD vs (decide (0<n)) rc []=(0,0):=by cases rc<;>simp[gD]
  have AH:D.length=(cY x).length:=by rw[V];simp
  rw[e,AH];simp only[ie]at A6⊢;rw[ai];simp[f235,A6]
 |b::J,D,rc,T,V,M,hi=>by
  have A1:D.length<(cY x).length:=by rw[V];simp
  have A2:(cY x)[D.length]=b:=by simp[V]
  have O:IntKind.i64.wrap ((D.length:Int)+1)=D.length+1:=aB (by unfold bq;omega);obtain⟨AG,U⟩:=A0 b (by rw[V];simp);simp only[ie]at Z;match rc,M,hi with
  |[],M,hi=>
   have A':¬D.length<(dQ x).length:=by rw[M];simp at hi⊢;omega
   obtain⟨H,ih⟩:=xF x AE A0 A7 v0 k R A5 Z A6 J (D++[b]) [] T (by simp[V]) M (by simp at hi⊢;omega);have e:gD vs (decide (0<n)) [] (b::J)=dR (fm vs (decide (0<n)) b) (gD vs (decide (0<n)) [] J):=by simp[gD]
   rw[e];generalize fm vs (decide (0<n)) b=E at*;rw[ai];by_cases I:E.1=0
   ·refine⟨H,?_⟩;have Y:dR E (gD vs (decide (0<n)) [] J)=gD vs (decide (0<n)) [] J:=by unfold dR;rw[aab (by simp[I])]
    rw[Y,<-ih];simp[bZ,I]at U;simp[f235];simp[A1,A2,O,A',U,bF,cL]
   ·refine⟨AG,?_⟩;have Y:dR E (gD vs (decide (0<n)) [] J)=E:=by unfold dR;rw[aat I]
    rw[Y,aab I];simp[bZ,I]at U;simp[f235];simp[A1,A2,O,A',U,bF,cL,Z]
  |c::rc,M,hi=>
   have AI:T.length=D.length:=by simp at hi;exact hi
   have A':D.length<(dQ x).length:=by rw[M];simp;omega
   have A8:(dQ x)[D.length]=c:=by simp[M,<-AI]
   have A3:=GW (A7 c (by rw[M];simp));obtain⟨H,ih⟩:=xF x AE A0 A7 v0 k R A5 Z A6 J (D++[b]) rc (T++[c]) (by simp[V]) (by simp[M]) (by simp;omega);have e:gD vs (decide (0<n)) (c::rc) (b::J)=dR (cu vs c 2) (dR (fm vs (decide (0<n)) b) (gD vs (decide (0<n)) rc J)):=by simp[gD]
   rw[e];generalize fm vs (decide (0<n)) b=E at*;generalize cu vs c 2=W at*;rw[ai];by_cases A4:W.1=0
   ·have A9:∀r,dR W r=r:=λr=>by unfold dR;rw[aab (by simp[A4])]
    rw[A9];simp[A4]at A3;by_cases I:E.1=0
    ·refine⟨H,?_⟩;have Y:dR E (gD vs (decide (0<n)) rc J)=gD vs (decide (0<n)) rc J:=by unfold dR;rw[aab (by simp[I])]
     rw[Y,<-ih];simp[bZ,I]at U;simp[f235];simp[A1,A2,A8,O,A',U,A3,bF,cL,aK]
    ·refine⟨AG,?_⟩;have Y:dR E (gD vs (decide (0<n)) rc J)=E:=by unfold dR;rw[aat I]
     rw[Y,aab I];simp[bZ,I]at U;simp[f235];simp[A1,A2,A8,O,A',U,A3,bF,cL,aK,Z]
   ·refine⟨n,?_⟩;have A9:∀r,dR W r=W:=λr=>by unfold dR;rw[aat A4]
    rw[A9,aab A4];simp[A4]at A3;simp[f235];simp[A1,A2,A8,O,A',A3,bF,cL,aK,Z]
end
end Go.Am
end
section
namespace Go.Am
open Go Go.Proofs
variable [Inhabited bV]
set_option maxRecDepth 20000
mutual
def Pb:Sm->Prop
 | .mk _ _ to val conds D fields blocks _=>(lnX to/\lnX val/\(conds.length<100000000/\JP conds)/\(D.length<100000000/\∀l∈D,l.length<100000000)/\fields.length<100000000/\blocks.length<100000000)/\zE blocks
def BC:List Sm->Prop
 |[]=>True
 |x::r=>Pb x/\BC r
def zE:List (List Sm)->Prop
 |[]=>True
 |b::r=>(b.length<100000000/\BC b)/\zE r
end
section
variable {x:Sm} {v:Nat} {k:Kt} {E:bN} {a b:AV}
end
end Go.Am
end
section
namespace Go.Am
open Go Go.Proofs Go.Proofs.Tryz
variable [Inhabited bV]
set_option maxRecDepth 20000
section
variable {vs:List Vr} {n:Int}
theorem IS(x:Sm)(v:Vr)(AE:(je x).length<100000000)(AC:∀y∈dQ x,KX vs n y)(v0 v1:Nat)(k:Kt)(R:bN)(A4:EL->bN)
 (M:∀env v2 H e A1,k (.panic 233 (lY e A1)) ⟨70,aX,env,[⟨0,0,.box [.vec 1 0 0 vs.length,.d (.int .i64 n)]⟩,⟨1,0,.vec 8 (vs.map aW)⟩,⟨250,v0,ie x⟩,⟨300,v1,xE v⟩,⟨450,v2,H⟩]⟩=A4 (e,A1))
 (A2:∀N env e A1,k (.panic 233 (lY e A1)) ⟨70,aX,env,[⟨0,0,.box [.vec 1 0 0 vs.length,.d (.int .i64 n)]⟩,⟨1,0,.vec 8 (vs.map aW)⟩,⟨250,N,.dead⟩,⟨300,N,.dead⟩,⟨450,N,.dead⟩]⟩=A4 (e,A1))
 (A3:∀v2 H,k (.exit 0) ⟨70,aX,[(0,true,.ptr 0 0 0),(3,true,.ptr 250 v0 0),(4,true,.ptr 300 v1 0),(21,true,.d (.list ((je x).map .str))),(22,true,.d (.int .i64 (je x).length)),(23,true,.d (.int .i64 (je x).length)),(24,true,.d (.bool false))],[⟨0,0,.box [.vec 1 0 0 vs.length,.d (.int .i64 n)]⟩,⟨1,0,.vec 8 (vs.map aW)⟩,⟨250,v0,ie x⟩,⟨300,v1,xE v⟩,⟨450,v2,H⟩]⟩=R):
 ∀(O E:List Tx)(rc U:List Ex)(v2:Nat)(H:aD),je x=E++O->dQ x=U++rc->U.length=E.length->rc.length=O.length->
 aZ ctx 240 (.loop (Code.at (bg f240) [1,1,1,1,0,0])) ⟨70,aX,[(0,true,.ptr 0 0 0),(3,true,.ptr 250 v0 0),(4,true,.ptr 300 v1 0),(21,true,.d (.list ((je x).map .str))),(22,true,.d (.int .i64 (je x).length)),(23,true,.d (.int .i64 E.length))],[⟨0,0,.box [.vec 1 0 0 vs.length,.d (.int .i64 n)]⟩,⟨1,0,.vec 8 (vs.map aW)⟩,⟨250,v0,ie x⟩,⟨300,v1,xE v⟩,⟨450,v2,H⟩]⟩ k=if (lW vs v.ty (oF x) O rc E).1=0 then R else A4 (lW vs v.ty (oF x) O rc E)
 |[],E,rc,U,v2,H,T,V,A5,A6=>by
  have A3:=A3 v2 H;have AF:E.length=(je x).length:=by rw[T];simp
  have e:lW vs v.ty (oF x) [] rc E=(0,0):=by simp[lW]
  rw[e,AF];simp only[ie,xE]at A3⊢;rw[ai];simp[f240,A3]
 |f::O,E,[],U,v2,H,T,V,A5,A6=>by simp at A6
 |f::O,E,y::rc,U,v2,H,T,V,A5,A6=>by
  have W:E.length<(je x).length:=by rw[T];simp
  have Y:(je x)[E.length]=f:=by simp[T]
  have A7:List.take E.length ((je x).map D.str)=E.map D.str:=by rw[<-List.map_take,T];simp
  have AA:E.length<(dQ x).length:=by rw[V];simp;omega
  have AB:(dQ x)[E.length]=y:=by simp[V,<-A5]
  have A8:E.length<=(je x).length:=by omega
  have Z:IntKind.i64.wrap ((E.length:Int)+1)=E.length+1:=aB (by unfold bq;omega);have A':=AC y (by rw[V];simp);unfold KX at A';have I:=ab5 v f;have A0:=ajk E f (by omega);have ih:=λv2 H=>IS x v AE AC v0 v1 k R A4 M A2 A3 O (E++[f]) rc (U++[y]) v2 H (by simp[T]) (by simp[V]) (by simp[A5]) (by simpa using A6);simp[aW,dx]at I;simp only[ie,xE]at M A2;rw[ai];unfold lW;cases AD:pt v.ty f with
  |none=>
   simp[AD,fP,eY,pnZ]at I;simp[f240];simp[W,Y,Z,I,cR,bF,M]
  |some q=>
   simp[AD,fP,eY]at I;simp only
   by_cases J:q.inp=false
   ·rw[aat J];simp[f240];simp[W,Y,Z,I,J,cR,bF,M]
   ·rw[aab J];have J:q.inp=true:=by simpa using J
    by_cases hm:f∈E
    ·rw[aat hm];simp[hm]at A0;simp[f240];simp[W,Y,A7,A8,Z,I,J,A0,cR,bF,M,A2,aq]
    ·rw[aab hm];simp[hm]at A0;by_cases he:(bm vs y).e=0
     ·simp[he]at A';by_cases A9:(bm vs y).t=q.ty
      ·have e:∀r,dR (cu vs y q.ty) r=r:=λr=>by simp[dR,cu,he,A9]
       rw[e];simp[f240]at ih⊢;simp[W,Y,A7,A8,AA,AB,Z,I,J,A0,A',he,A9,cR,bF,aq,aK,ih]
      ·have e:∀r,dR (cu vs y q.ty) r=(10,iX y):=λr=>by simp[dR,cu,he,A9]
       rw[e];simp[f240];simp[W,Y,A7,A8,AA,AB,Z,I,J,A0,A',he,A9,cR,bF,aq,aK,M,A2]
     ·simp[he]at A';have e:∀r,dR (cu vs y q.ty) r=((bm vs y).e,(bm vs y).line):=λr=>by simp[dR,cu,he]
      rw[e];simp[f240];simp[W,Y,A7,A8,AA,AB,Z,I,J,A0,A',he,cR,bF,aq,aK,M,A2]
end
section
variable {vs:List Vr} {n:Int} (A5:vs.length<1000000) (A8:∀v∈vs,dN v=true)
def US(vs:List Vr)(x:Sm):EL:=match bE vs (lU x)with
 |none=>(9,oF x)
 |some v=>if v.ty<=2 then (10,oF x)else lW vs v.ty (oF x) (je x) (dQ x) []
def coE(vs:List Vr)(x:Sm):EL:=match bE vs (lU x)with
 |none=>(9,oF x)
 |some v=>if v.sec=1 then (1,oF x)else if v.arr=true\/v.ty≠1 then (10,oF x)else dR (lV vs 1 (dQ x)) (uK vs (cY x))
include A5 A8
omit A8 in
theorem ajl{x:Sm}(Z:(je x).length<100000000)(AB:(dQ x).length=(je x).length)(A':∀y∈dQ x,KX vs n y):ag ctx 240 [.ptr 0 0 0,.d (.agg (LF x))] [.box [.vec 1 0 0 vs.length,.d (.int .i64 n)],.vec 8 (vs.map aW)]=
 bZ vs n n (US vs x):=by
 have D:=qE (n:=n) A5 (lU x) (oF x);unfold US;rw[anf (by simp)];cases A0:bE vs (lU x)with
 |none=>
  simp[A0]at D;simp[f240,D,bF,bZ]
 |some v=>
  have I:=GU v;simp[A0,fV,aW,dx]at D I;simp only
  by_cases A6:v.ty<=2
  ·have A9:¬2<v.ty:=by omega
   rw[aat A6];simp[A9]at I;simp[f240,D,I,cR,bF,aq,bZ,aW,dx]
  ·have A9:2<v.ty:=by omega
   rw[aab A6];simp[A9]at I;have h:=λv0 v1 k R A1 A2 AC A3 v2 J=>IS (n:=n) x v Z A' v0 v1 k R A1 A2 AC A3 (je x) [] (dQ x) [] v2 J rfl rfl rfl AB;simp[f240]at h;simp[f240,D,I,cR,bF,aq,aW,dx];rw[h _ _ _ (some (.ret (.aY []),bF vs n)) (λe=>some (.panic 233 (lY e.1 e.2),bF vs n))]
   ·simp[bZ]
   ·intro env v2 J e A7;simp[bF]
   ·intro N env e A7;simp[bF]
   ·intro v2 J;simp[bF]
theorem Y7{x:Sm}{b:List Sm}(I:cY x=[b])(Z:(dQ x).length<100000000)(A':∀y∈dQ x,KX vs n y)(AD:0<=n)(AE:n<100000000)(AA:LH vs (n+1) b):∃H,ag ctx 237 [.ptr 0 0 0,.d (.agg (LF x))] [.box [.vec 1 0 0 vs.length,.d (.int .i64 n)],.vec 8 (vs.map aW)]=
 bZ vs n H (coE vs x):=by
 have D:=qE (n:=n) A5 (lU x) (oF x);obtain⟨H,O⟩:=JR AD AE AA;unfold coE;rw[I,show uK vs [b]=fm vs true b by simp[uK]];generalize fm vs true b=E at*;cases A0:bE vs (lU x)with
 |none=>
  refine⟨n,?_⟩;rw[Du (by simp)];simp[A0]at D;simp[f237,D,bF,bZ]
 |some v=>
  simp[A0,fV,aW,dx]at D;simp only
  by_cases T:v.sec=1
  ·refine⟨n,?_⟩;rw[Du (by simp)];simp[f237,D,cR,bF,bZ,T]
  ·rw[aab T];by_cases U:v.arr=true\/v.ty≠1
   ·refine⟨n,?_⟩;rw[aat U];rw[Du (by simp)];cases V:v.arr with
    |true=>simp[f237,D,cR,bF,bZ,T,V]
    |false=>
     have Y:¬v.ty=1:=by rw[V]at U;simpa using U
     simp[f237,D,cR,bF,bZ,T,V,Y]
   ·rw[aab U];simp only[alg,Bool.not_eq_true,ne_eq,ak0]at U;obtain⟨V,Y⟩:=U;have h:=λAF AG Y A6 v0 k R A1 A2 A3 v2 J=>Cb (vs:=vs) (n:=n) x Z A' AF AG Y A6 v0 k R A1 A2 A3 (dQ x) [] v2 J rfl;simp[f237]at h;generalize lV vs 1 (dQ x)=W at*;by_cases A4:W.1=0
    ·refine⟨H,?_⟩;have e:dR W E=E:=by unfold dR;rw[aab (by simp[A4])]
     rw[e];rw[Du (by simp)];simp[f237,D,cR,bF,T,V,Y];rw[h ⟨250,_,_⟩ ⟨300,_,_⟩ rfl rfl _ _ (bZ vs n H E) (λe=>some (.panic 233 (lY e.1 e.2),bF vs n))]
     ·rw[aat A4]
     ·intro env v2 J e A7;simp[bF]
     ·intro v2 J;by_cases M:E.1=0
      ·simp[bZ,M]at O;simp[I,cL,O,bF,bZ,M]
      ·simp[bZ,M]at O;simp[I,cL,O,bF,bZ,M]
    ·refine⟨n,?_⟩;have e:dR W E=W:=by unfold dR;rw[aat A4]
     rw[e];rw[Du (by simp)];simp[f237,D,cR,bF,T,V,Y];rw[h ⟨250,_,_⟩ ⟨300,_,_⟩ rfl rfl _ _ (bZ vs n H E) (λe=>some (.panic 233 (lY e.1 e.2),bF vs n))]
     ·rw[aab A4];simp[bZ,A4]
     ·intro env v2 J e A7;simp[bF]
     ·intro v2 J;by_cases M:E.1=0
      ·simp[bZ,M]at O;simp[I,cL,O,bF,bZ,M]
      ·simp[bZ,M]at O;simp[I,cL,O,bF,bZ,M]
omit A5 A8 in
theorem F4{x:Sm}(Z:(cY x).length<100000000)(hle:(dQ x).length<=(cY x).length)(AA:∀b∈cY x,LH vs n b)(A':∀y∈dQ x,KX vs n y):∃H,ag ctx 235 [.ptr 0 0 0,.d (.agg (LF x))] [.box [.vec 1 0 0 vs.length,.d (.int .i64 n)],.vec 8 (vs.map aW)]=
 bZ vs n H (gD vs (decide (0<n)) (dQ x) (cY x)):=by
 have AH:∃H,ag ctx 235 [.ptr 0 0 0,.d (.agg (LF x))] [.box [.vec 1 0 0 vs.length,.d (.int .i64 n)],.vec 8 (vs.map aW)]=if (gD vs (decide (0<n)) (dQ x) (cY x)).1=0 then some (.ret (.aY []),bF vs n)else (λ(e:EL) H=>some (Out.panic 233 (lY e.1 e.2),bF vs H)) (gD vs (decide (0<n)) (dQ x) (cY x)) H:=by
  rw[ana (by simp)];have h:=λv0 k R A1 A2 A3=>xF (vs:=vs) (n:=n) x Z AA A' v0 k R A1 A2 A3 (cY x) [] (dQ x) [] rfl rfl (.inl rfl);simp[f235]at h⊢;refine h _ _ (some (.ret (.aY []),bF vs n)) (λ(e:EL) H=>some (Out.panic 233 (lY e.1 e.2),bF vs H)) ?_ ?_
  ·intro env e A7 H;simp[bF]
  ·simp[bF]
 exact AH
end
theorem arU(vs:List Vr)(lp:Bool)(x:Sm):mu vs lp x=
 if gd x=1 then yD vs (fR x) (gB x) (oF x)
 else if gd x=2 then gD vs lp (dQ x) (cY x)
 else if gd x=3 then dR (cu vs (gB x) 1) (gD vs lp [] (cY x))
 else if gd x=4 then coE vs x
 else if gd x=5 then dR (cu vs (gB x) 2) (uK vs (cY x))
 else if gd x=6 then dR (uK vs (cY x)) (cu vs (gB x) 2)
 else if gd x=7 then (if lp=true then (0,0)else (14,oF x))
 else if gd x=9 then US vs x
 else (0,0):=by
 obtain⟨op,name,to,val,conds,Y,fields,blocks,line⟩:=x;unfold mu coE US;rfl
mutual
def UT:Sm->Nat
 | .mk _ _ _ _ conds Y fields blocks _=>1+conds.length+Y.length+fields.length+zF blocks
def vd:List Sm->Nat
 |[]=>0
 |x::r=>UT x+vd r
def zF:List (List Sm)->Nat
 |[]=>0
 |b::r=>vd b+1+zF r
end
theorem GZ:∀l:List Sm,l.length<=vd l
 |[]=>by simp[vd]
 | .mk _ _ _ _ c A5 f A6 _::r=>by have:=GZ r;simp only[vd,UT,aan];omega
theorem Pd:∀l:List (List Sm),l.length<=zF l
 |[]=>by simp[zF]
 |b::r=>by have:=Pd r;simp only[zF,aan];omega
section
variable {vs:List Vr} {n:Int} (A7:vs.length<1000000) (A8:∀v∈vs,dN v=true)
theorem Pe{l:List Sm}(A9:l.length<100000000)(A0:∀x∈l,KM vs n x):LH vs n l:=by
 have loop:∀(k:Kt)(R:bN)(J:EL->Int->bN),
  (∀env v2 H e U D,k (.panic 233 (lY e U)) ⟨16,aX,env,[⟨0,0,.box [.vec 1 0 0 vs.length,.d (.int .i64 D)]⟩,⟨1,0,.vec 8 (vs.map aW)⟩,⟨350,v2,H⟩]⟩=J (e,U) D)->
  (∀v2 H,k (.exit 0) ⟨16,aX,[(0,true,.ptr 0 0 0),(6,true,.d (.list (l.map bX))),(7,true,.d (.int .i64 l.length)),(8,true,.d (.int .i64 l.length)),(9,true,.d (.bool false))],[⟨0,0,.box [.vec 1 0 0 vs.length,.d (.int .i64 n)]⟩,⟨1,0,.vec 8 (vs.map aW)⟩,⟨350,v2,H⟩]⟩=R)->
  ∀(rest pre:List Sm)(v2:Nat)(H:aD),l=pre++rest->∃D,
  aZ ctx 103 (.loop (Code.at (bg f103) [1,0,0])) ⟨16,aX,[(0,true,.ptr 0 0 0),(6,true,.d (.list (l.map bX))),(7,true,.d (.int .i64 l.length)),(8,true,.d (.int .i64 pre.length))],[⟨0,0,.box [.vec 1 0 0 vs.length,.d (.int .i64 n)]⟩,⟨1,0,.vec 8 (vs.map aW)⟩,⟨350,v2,H⟩]⟩ k=if (fm vs (decide (0<n)) rest).1=0 then R else J (fm vs (decide (0<n)) rest) D:=by
  intro k R J V M rest;induction rest with
  |nil=>
   intro pre v2 H I;refine⟨0,?_⟩;have M:=M v2 H;have A1:pre.length=l.length:=by rw[I];simp
   rw[A1,ai];simp[f103,fm,M]
  |cons x rest ih=>
   intro pre v2 H I;have Z:pre.length<l.length:=by rw[I];simp
   have y:l[pre.length]=x:=by simp[I]
   have A':IntKind.i64.wrap ((pre.length:Int)+1)=pre.length+1:=aB (by unfold bq;omega);obtain⟨A2,T⟩:=A0 x (by rw[I];simp);have A3:fm vs (decide (0<n)) (x::rest)=dR (mu vs (decide (0<n)) x) (fm vs (decide (0<n)) rest):=by simp[fm]
   rw[A3];generalize mu vs (decide (0<n)) x=E at*;by_cases O:E.1=0
   ·obtain⟨D,ih⟩:=ih (pre++[x]) (v2+1) (ie x) (by simp[I]);refine⟨D,?_⟩;have W:∀r,dR E r=r:=λr=>by unfold dR;rw[aab (by simp[O])]
    rw[W,<-ih];simp[bZ,O]at T;rw[ai];simp[f103];simp[Z,y,A',T,bF,dI]
   ·refine⟨A2,?_⟩;have W:∀r,dR E r=E:=λr=>by unfold dR;rw[aat O]
    rw[W,aab O];simp[bZ,O]at T;rw[ai];simp[f103];simp[Z,y,A',T,bF,dI,V]
 have A4:∃D,ag ctx 103 [.ptr 0 0 0,.d (.list (l.map bX))] [.box [.vec 1 0 0 vs.length,.d (.int .i64 n)],.vec 8 (vs.map aW)]=if (fm vs (decide (0<n)) l).1=0 then some (.ret (.aY []),bF vs n)else (λ(e:EL) D=>some (Out.panic 233 (lY e.1 e.2),bF vs D)) (fm vs (decide (0<n)) l) D:=by
  rw[amd (by simp)];have h:=λk R J V M v2 H=>loop k R J V M l [] v2 H rfl;simp[f103]at h⊢;refine h _ (some (.ret (.aY []),bF vs n)) (λ(e:EL) D=>some (Out.panic 233 (lY e.1 e.2),bF vs D)) ?_ ?_ _ _
  ·intro env v2 H e U D;simp[bF]
  ·intro v2 H;simp[bF]
 exact A4
end
section
variable {vs:List Vr} {n:Int} (V:vs.length<1000000) (Y:∀v∈vs,dN v=true)
theorem Mt{a b:EL}(h:a.1=0):dR a b=b:=by unfold dR;rw[aab (by simp[h])]
theorem Mu{a b:EL}(h:¬a.1=0):dR a b=a:=by unfold dR;rw[aat h]
theorem ajm{y:Ex}(T:dj y=4)(A6:bn y=true):∃z,ic y=[z]/\bn z=true:=by
 obtain⟨op,nn,name,field,sub,line⟩:=y;simp only[iN]at T;subst T;simp only[bn,Ds,aak]at A6;obtain⟨_,AM,_,_,AN⟩:=A6;match sub,AM with
 |[z],_=>exact⟨z,rfl,by simpa [bQ]using AN⟩
 |[],h=>simp[eV]at h
 |_::_::_,h=>simp[eV]at h
include V Y
omit Y in
theorem aeR{x:Sm}(A5:∀y∈dQ x,KX vs n y)(AC:(je x).length<100000000)(Z:bY (gd x) (dQ x).length (u5 x).length (je x).length (cY x).length=true)(M:¬gd x=1)(A':¬gd x=2)(U:¬gd x=3)(T:¬gd x=4)(A0:¬gd x=5)(A1:¬gd x=6):
 ag ctx 172 [.ptr 0 0 0,.d (.agg (LF x))] [.box [.vec 1 0 0 vs.length,.d (.int .i64 n)],.vec 8 (vs.map aW)]=bZ vs n n (if gd x=7 then (if decide (0<n)=true then (0,0)else (14,oF x))else if gd x=9 then US vs x else (0,0)):=by
 rw[qx (by simp)];by_cases A7:gd x=7
 ·rw[aat A7];by_cases AH:0<n
  ·simp[f172,A7,cR,AH,bF,aq,bZ]
  ·simp[f172,A7,cR,AH,bF,aq,bZ]
 ·rw[aab A7];by_cases A3:gd x=9
  ·have I:=Z;rw[A3]at I;simp[bY]at I;have J:=ajl (vs:=vs) (n:=n) V AC I.1 A5;rw[aat A3];generalize US vs x=E at*;by_cases D:E.1=0
   ·simp[bZ,D,A3]at J;simp[f172,A3,J,bF,bZ,D]
   ·simp[bZ,D,A3]at J;simp[f172,A3,J,bF,bZ,D]
  ·rw[aab A3];simp[f172,M,A',U,T,A0,A1,A7,A3,bF,bZ]
theorem ajn{x:Sm}(A6:gC x=true)(AI:(cY x).length<100000000)(AO:(dQ x).length<100000000)(AC:(je x).length<100000000)(AD:0<=n)(AE:n<100000000)(A8:∀b∈cY x,LH vs n b/\LH vs (n+1) b):KM vs n x:=by
 have AP:=arU vs (decide (0<n)) x;have AQ:∃op name to val conds A9 fields blocks line,x=.mk op name to val conds A9 fields blocks line:=by
  obtain⟨op,name,to,val,conds,A9,fields,blocks,line⟩:=x;exact⟨op,name,to,val,conds,A9,fields,blocks,line,rfl⟩
 have facts:(1<=gd x/\gd x<=9)/\(gd x=1->(dj (fR x)=3\/dj (fR x)=4)/\bn (fR x)=true)/\((gd x=1\/gd x=3\/gd x=5\/gd x=6)->bn (gB x)=true)/\bQ (dQ x)=true/\bY (gd x) (dQ x).length (u5 x).length (je x).length (cY x).length=true:=by
  obtain⟨op,name,to,val,conds,A9,fields,blocks,line,rfl⟩:=AQ;simp only[gC,Ds,aak]at A6;obtain⟨AJ,AU,AA,A4,AF,Z,AV,AW,AX⟩:=A6;refine⟨AJ,λM=>?_,λM=>?_,AF,Z⟩
  ·simp only[abK]at M;rw[aat M]at AA;simpa using AA
  ·simp only[abK]at M;rw[aat M]at A4;simp only[Ds]at A4;exact A4.2
 obtain⟨AJ,AA,A4,AF,Z⟩:=facts;have A5:=GX (n:=n) V Y (dQ x) AF;unfold KM;rw[AP];by_cases M:gd x=1
 ·obtain⟨U,AR⟩:=AA M;have AB:=ab8 V Y (n:=n) U (wi V Y _ (A4 (.inl M))) (λT=>by
   obtain⟨y,AS,AT⟩:=ajm T AR;exact⟨y,AS,wi V Y y AT⟩)
  refine⟨n,?_⟩;rw[aat M];generalize yD vs (fR x) (gB x) (oF x)=E at*;rw[qx (by simp)];by_cases D:E.1=0
  ·simp[bZ,D,M]at AB;simp[f172,M,AB,bF,bZ,D]
  ·simp[bZ,D,M]at AB;simp[f172,M,AB,bF,bZ,D]
 ·rw[aab M];by_cases A':gd x=2
  ·have I:=Z;rw[A']at I;simp[bY]at I;obtain⟨A2,H⟩:=F4 AI (by omega) (λb H=>(A8 b H).1) A5;refine⟨A2,?_⟩;rw[aat A'];generalize gD vs (decide (0<n)) (dQ x) (cY x)=E at*;rw[qx (by simp)];by_cases D:E.1=0
   ·simp[bZ,D,A']at H;simp[f172,A',H,bF,bZ,D]
   ·simp[bZ,D,A']at H;simp[f172,A',H,bF,bZ,D]
  ·rw[aab A'];by_cases U:gd x=3
   ·have I:=Z;rw[U]at I;simp[bY]at I;have AK:dQ x=[]:=abO (by simp[I.1]);obtain⟨A2,H⟩:=F4 AI (by rw[AK];simp) (λb H=>(A8 b H).1) A5;have hw:=DU (wi V Y (n:=n) _ (A4 (.inr (.inl U))));rw[aat U];simp only[LF,AK]at H⊢;generalize gD vs (decide (0<n)) [] (cY x)=E at*;generalize cu vs (gB x) 1=W at*;by_cases O:W.1=0
    ·refine⟨A2,?_⟩;rw[Mt O];simp[O]at hw;rw[qx (by simp)];by_cases D:E.1=0
     ·simp[bZ,D,U]at H;simp[f172,U,hw,H,bF,bZ,D]
     ·simp[bZ,D,U]at H;simp[f172,U,hw,H,bF,bZ,D]
    ·refine⟨n,?_⟩;rw[Mu O];simp[O]at hw;rw[qx (by simp)];simp[f172,U,hw,bF,bZ,O]
   ·rw[aab U];by_cases T:gd x=4
    ·have I:=Z;rw[T]at I;simp[bY]at I;obtain⟨b,H⟩:∃b,cY x=[b]:=by
      match AL:cY x,I.2.2.2 with
      |[b],_=>exact⟨b,rfl⟩
     obtain⟨A2,J⟩:=Y7 V Y H AO A5 AD AE (A8 b (by rw[H];simp)).2;refine⟨A2,?_⟩;rw[aat T];generalize coE vs x=E at*;rw[qx (by simp)];by_cases D:E.1=0
     ·simp[bZ,D,T]at J;simp[f172,T,J,bF,bZ,D]
     ·simp[bZ,D,T]at J;simp[f172,T,J,bF,bZ,D]
    ·rw[aab T];by_cases A0:gd x=5
     ·have I:=Z;rw[A0]at I;simp[bY]at I;obtain⟨b,H⟩:∃b,cY x=[b]:=by
       match AL:cY x,I.2.2.2 with
       |[b],_=>exact⟨b,rfl⟩
      obtain⟨A2,J⟩:=JR AD AE (A8 b (by rw[H];simp)).2;have hw:=GW (wi V Y (n:=n) _ (A4 (.inr (.inr (.inl A0)))));rw[aat A0];have AG:uK vs (cY x)=fm vs true b:=by rw[H];simp[uK]
      rw[AG];generalize fm vs true b=E at*;generalize cu vs (gB x) 2=W at*;by_cases O:W.1=0
      ·refine⟨A2,?_⟩;rw[Mt O];simp[O]at hw;rw[qx (by simp)];by_cases D:E.1=0
       ·simp[bZ,D]at J;simp[f172,A0,hw,J,H,cL,bF,bZ,D]
       ·simp[bZ,D]at J;simp[f172,A0,hw,J,H,cL,bF,bZ,D]
      ·refine⟨n,?_⟩;rw[Mu O];simp[O]at hw;rw[qx (by simp)];simp[f172,A0,hw,bF,bZ,O]
     ·rw[aab A0];by_cases A1:gd x=6
      ·have I:=Z;rw[A1]at I;simp[bY]at I;obtain⟨b,H⟩:∃b,cY x=[b]:=by
        match AL:cY x,I.2.2.2 with
        |[b],_=>exact⟨b,rfl⟩
       obtain⟨A2,J⟩:=JR AD AE (A8 b (by rw[H];simp)).2;have hw:=GW (wi V Y (n:=n) _ (A4 (.inr (.inr (.inr A1)))));rw[aat A1];have AG:uK vs (cY x)=fm vs true b:=by rw[H];simp[uK]
       rw[AG];generalize fm vs true b=E at*;generalize cu vs (gB x) 2=W at*;by_cases D:E.1=0
       ·refine⟨n,?_⟩;rw[Mt D];simp[bZ,D]at J;rw[qx (by simp)];by_cases O:W.1=0
        ·simp[O]at hw;simp[f172,A1,hw,J,H,cL,bF,bZ,O]
        ·simp[O]at hw;simp[f172,A1,hw,J,H,cL,bF,bZ,O]
       ·refine⟨A2,?_⟩;rw[Mu D];simp[bZ,D]at J;rw[qx (by simp)];simp[f172,A1,J,H,cL,bF,bZ,D]
      ·rw[aab A1];exact⟨n,aeR V A5 AC Z M A' U T A0 A1⟩
end
section
variable {vs:List Vr} (A5:vs.length<1000000) (A6:∀v∈vs,dN v=true)
include A5 A6
mutual
theorem aoD:∀(x:Sm),gC x=true->∀n:Int,0<=n->n+UT x<100000000->KM vs n x
 | .mk op name to val conds AJ fields blocks line,D,n,E,T=>by
  have A7:cH blocks=true:=by
   simp only[gC,Ds]at D;exact D.2.2.2.2.2.2.2.2
  have AK:=Pd blocks;simp only[UT]at T;have AD:=JS blocks A7 n E (by omega);have AE:=JS blocks A7 (n+1) (by omega) (by omega);exact ajn A5 A6 D (by simp only[an7];omega) (by simp only[abL];omega) (by simp only[abM];omega) E (by omega) (λb I=>⟨AD b I,AE b I⟩)
theorem JT:∀(l:List Sm),fG l=true->∀n:Int,0<=n->n+vd l<100000000->∀x∈l,KM vs n x
 |[],_,n,_,_,x,H=>by simp at H
 |y::r,D,n,E,T,x,H=>by
  simp only[fG,Ds]at D;simp only[vd]at T;have U:=aoD y D.1 n E (by omega);have Y:=JT r D.2 n E (by omega);rcases aaC.1 H with h|H
  ·rw[h];exact U
  ·exact Y x H
theorem JS:∀(bs:List (List Sm)),cH bs=true->∀n:Int,0<=n->n+zF bs<100000000->∀b∈bs,LH vs n b
 |[],_,n,_,_,b,I=>by simp at I
 |c::r,D,n,E,T,b,I=>by
  simp only[cH,Ds]at D;simp only[zF]at T;have AL:=GZ c;have U:=Pe (by omega) (JT c D.1 n E (by omega));have Y:=JS r D.2 n E (by omega);rcases aaC.1 I with h|I
  ·rw[h];exact U
  ·exact Y b I
end
end
theorem IT(l:List Vr)(AF:l.length<=1000)(D:∀v∈l,dN v=true)(k:Kt)(R:Nat->bN)(Z:EL->List Vr->Nat->bN)
 (A':∀env v1 v2 J e A8 p,k (.panic 233 (lY e A8)) ⟨43,aX,env,[⟨0,0,.box [.vec 1 v1 0 p.length,.d (.int .i64 0)]⟩,⟨1,v1,.vec 8 (p.map aW)⟩,⟨400,v2,J⟩]⟩=Z (e,A8) p v1)
 (H:∀v1 v2 J c,k (.exit 0) ⟨43,aX,[(0,true,.ptr 0 0 0),(4,true,.d (.int .i64 c)),(7,true,.d (.list (l.map aW))),(8,true,.d (.int .i64 l.length)),(9,true,.d (.int .i64 l.length)),(10,true,.d (.bool false))],[⟨0,0,.box [.vec 1 v1 0 l.length,.d (.int .i64 0)]⟩,⟨1,v1,.vec 8 (l.map aW)⟩,⟨400,v2,J⟩]⟩=R v1):
 ∀(rest pre:List Vr)(c:Int)(v1 v2:Nat)(J:aD),l=pre++rest->0<=c->c<=1024->∃A0 V,
 aZ ctx 102 (.loop (Code.at (bg f102) [1,1,0,0])) ⟨43,aX,[(0,true,.ptr 0 0 0),(4,true,.d (.int .i64 c)),(7,true,.d (.list (l.map aW))),(8,true,.d (.int .i64 l.length)),(9,true,.d (.int .i64 pre.length))],[⟨0,0,.box [.vec 1 v1 0 pre.length,.d (.int .i64 0)]⟩,⟨1,v1,.vec 8 (pre.map aW)⟩,⟨400,v2,J⟩]⟩ k=if (yE rest pre c).1=0 then R V else Z (yE rest pre c) A0 V
 |[],pre,c,v1,v2,J,M,E,U=>by
  have H:=H v1 v2 J c;simp at M;subst M;refine⟨[],v1,?_⟩;rw[ai];simp[f102,yE,H]
 |v::rest,pre,c,v1,v2,J,M,E,U=>by
  have A9:=D v (by rw[M];simp);have AM:=tY A9;have A1:=GY A9;have A2:pre.length<l.length:=by rw[M];simp
  have A4:l[pre.length]=v:=by simp[M]
  have O:=ajf v pre (by omega);rw[ahP]at O;have AG:IntKind.i64.wrap ((pre.length:Int)+1)=pre.length+1:=aB (by unfold bq;omega);have AA:IntKind.i64.wrap (c+bO v)=c+bO v:=aB (by unfold bq;omega);have AH:pre.length+1<=4611686018427387904:=by omega
  have AI:(pre.length+1)*72<=140737488355328:=by omega
  simp[aW,dx]at A1;rw[ai];unfold yE;cases AB:(bE pre v.name).isSome with
  |true=>
   rw[AB]at O;refine⟨pre,v1,?_⟩;simp[f102];simp[A2,A4,aW,dx,O,cR,A',wb,Bj,Bi,pS,rB,vS,kR,nB,oz,qR,yj,yk,yl,ym,fB,qQ,tc,A3,rZ,ze,HZ,KF,FH,ej,eU,lg,pQ,bh.app]
  |false=>
   rw[AB]at O;by_cases AC:1024<c+bO v
   ·have W:¬c+bO v<=1024:=by omega
    refine⟨pre,v1,?_⟩;simp[f102,AC];simp[A2,A4,aW,dx,O,A1,AA,W,cR,A',wb,Bj,Bi,pS,rB,vS,kR,nB,oz,qR,yj,yk,yl,ym,fB,qQ,tc,A3,rZ,ze,HZ,KF,FH,ej,eU,lg,pQ,bh.app]
   ·have W:c+bO v<=1024:=by omega
    obtain⟨A0,V,ih⟩:=IT l AF D k R Z A' H rest (pre++[v]) (c+bO v) (v1+1) (v2+1) (xE v) (by simp[M]) (by omega) W;refine⟨A0,V,?_⟩;simp only[acW,acw,aab AC];rw[<-ih];simp[f102];simp[A2,A4,aW,dx,O,A1,AG,AA,AH,AI,W,cR,aq,wb,Bj,Bi,pS,rB,vS,kR,nB,oz,qR,yj,yk,yl,ym,fB,qQ,tc,A3,rZ,ze,HZ,KF,FH,ej,eU,lg,pQ,bh.app]
def F5(vs:List Vr)(v:Nat):List (Nat×aD):=[(0,.box [.vec 1 v 0 vs.length,.d (.int .i64 0)]),(v,.vec 8 (vs.map aW))]
theorem Q2{l:List Vr}(y:l.length<=1000)(T:∀v∈l,dN v=true):∃H I,ag ctx 102 [.ptr 0 0 0,.d (.list (l.map aW))] [.box [.vec 1 0 0 0,.d (.int .i64 0)],.vec 8 []]=
 if (yE l [] 0).1=0 then some (.ret (.aY []),F5 l I)else some (.panic 233 (lY (yE l [] 0).1 (yE l [] 0).2),F5 H I):=by
 have A':∃H I,ag ctx 102 [.ptr 0 0 0,.d (.list (l.map aW))] [.box [.vec 1 0 0 0,.d (.int .i64 0)],.vec 8 []]=if (yE l [] 0).1=0 then (λv=>some (.ret (.aY []),F5 l (if v=0 then 0 else 1))) I else (λ(e:EL) (H:List Vr) v=>some (Out.panic 233 (lY e.1 e.2),F5 H (if v=0 then 0 else 1))) (yE l [] 0) H I:=by
  rw[amc (by simp)];have h:=λk R A0 A1 A2 v1 v2 W=>IT l y T k R A0 A1 A2 l [] 0 v1 v2 W rfl (by omega) (by omega);simp[f102]at h⊢;refine h _ (λv=>some (.ret (.aY []),F5 l (if v=0 then 0 else 1))) (λ(e:EL) H v=>some (Out.panic 233 (lY e.1 e.2),F5 H (if v=0 then 0 else 1))) ?_ ?_ _ _ _
  ·intro env v1 v2 W e A5 p;simp[F5]
  ·intro v1 v2 W c;simp[F5]
 obtain⟨H,I,h⟩:=A';exact⟨H,if I=0 then 0 else 1,h⟩
theorem Q3(e l:Int)(a b:AV):zx ctx 101 [.ptr 0 0 0,.ptr 1 0 0,.iA 233 (lY e l)] [.box [a],.box [b]]=some (.ret (.aY []),[(0,.box [.d (.int .i64 e)]),(0,.box [.d (.int .i64 l)])]):=by
 rw[abt (by rfl) (by rfl) (by simp)];simp[f101];erw[yA rfl];simp[lY,aq]
theorem Y8(a b:D):zx ctx 101 [.ptr 0 0 0,.ptr 1 0 0,.lit .nilIface] [.box [.d a],.box [.d b]]=some (.ret (.aY []),[(0,.box [.d a]),(0,.box [.d b])]):=by
 rw[abt (by rfl) (by rfl) (by simp)];simp[f101];erw[yA rfl];simp
def DV(e:EL):EL:=if e.1=0 then (0,0)else e
theorem aeS{p:Pg}(T:u7 p=true)(A6:vd p.body<50000000):ag ctx 61 [.d (.agg [.str p.name,.list (p.vars.map aW),.list (p.body.map bX)])] []=some (.ret (.aY [.d (.int .i64 (DV (qD p)).1),.d (.int .i64 (DV (qD p)).2)]),[]):=by
 simp only[u7,Ds,aak,abX]at T;obtain⟨_,A7,Y,A3⟩:=T;have A8:=GZ p.body;obtain⟨H,I,J⟩:=Q2 (l:=p.vars) (by omega) Y;obtain⟨A9,M⟩:=Pe (vs:=p.vars) (n:=0) (l:=p.body) (by omega) (JT (by omega) Y p.body A3 0 (by omega) (by omega));have Z:=Q3;have A4:=Y8;rw[arq (by simp)];unfold qD;rw[show (decide ((0:Int)<0))=false by decide]at M;generalize yE p.vars [] 0=V at*;generalize fm p.vars false p.body=E at*;by_cases O:V.1=0
 ·rw[Mt O];simp[O,F5]at J;by_cases U:E.1=0
  ·simp[bZ,U,bF]at M;simp[f61,qq,te,jZ,KI,J,M,A4,aq,DV,U]
  ·simp[bZ,U,bF]at M;simp[f61,qq,te,jZ,KI,J,M,Z,aq,DV,U]
 ·rw[Mu O];simp[O,F5]at J;simp[f61,qq,te,jZ,KI,J,Z,aq,DV,O]
end Go.Am
end
section
namespace Go.Am
open Go
theorem Pf(l:List Ex):(dA l).length=l.length:=by rw[we];simp
theorem uN(x:Ex):cM (bK x)=aV (B3 x)+1:=by rw[ahG];rfl
mutual
theorem Ph:∀x:Ex,cM (bK x)<100000000->lnX x
 | .mk op n name field sub line,h=>by
  simp only[bK,cM,aV]at h;have E:=pw (dA sub);rw[Pf]at E;simp only[lnX];exact⟨⟨by omega,by omega,by omega⟩,JU sub (by omega)⟩
theorem JU:∀l:List Ex,aV (dA l)<100000000->JP l
 |[],_=>by simp only[JP]
 |x::r,h=>by
  simp only[dA,aV]at h;simp only[JP];exact⟨Ph x (by omega),JU r (by omega)⟩
end
theorem BD{α:Type}(f:α->D)(l:List α):l.length<=aV (l.map f):=by
 have:=pw (l.map f);simpa using this
theorem ahT(l:List Int):l.length<=cM (p7 l):=by
 have:=BD (λn=>D.int .i64 n) l;simp only[p7,cM];omega
theorem aeT(l:List (List Sm)):(gJ l).length=l.length:=by rw[Ai];simp
theorem G2(l:List Sm):(jF l).length=l.length:=by rw[pU];simp
mutual
theorem aoE:∀x:Sm,cM (bX x)<100000000->Pb x/\UT x<=cM (bX x)
 | .mk op name to val conds J fields blocks line,h=>by
  simp only[bX,cM,aV,kg]at h⊢;have U:=uN to;have V:=uN val;have E:=pw (dA conds);rw[Pf]at E;have W:=BD p7 J;have Y:=BD D.str fields;have M:=pw (gJ blocks);rw[aeT]at M;have O:=UW blocks (by omega);simp only[Pb,UT];refine⟨⟨⟨Ph to (by omega),Ph val (by omega),⟨by omega,JU conds (by omega)⟩,⟨by omega,λl T=>?_⟩,by omega,by omega⟩,O.1⟩,by omega⟩;have Z:=O2 (ab0 (f:=p7) T);have y:=ahT l;omega
theorem JV:∀l:List Sm,aV (jF l)<100000000->BC l/\vd l<=aV (jF l)
 |[],_=>by simp only[BC,vd];exact⟨trivial,Nat.zero_le _⟩
 |x::r,h=>by
  simp only[jF,aV]at h⊢;have H:=aoE x (by omega);have E:=JV r (by omega);simp only[BC,vd];exact⟨⟨H.1,E.1⟩,by omega⟩
theorem UW:∀l:List (List Sm),aV (gJ l)<100000000->zE l/\zF l<=aV (gJ l)
 |[],_=>by simp only[zE,zF];exact⟨trivial,Nat.zero_le _⟩
 |b::r,h=>by
  simp only[gJ,aV,cM]at h⊢;have I:=pw (jF b);rw[G2]at I;have H:=JV b (by omega);have E:=UW r (by omega);simp only[zE,zF];exact⟨⟨⟨by omega,H.1⟩,E.1⟩,by omega⟩
end
theorem Pj{p:Pg}(h:cM (.agg [.str p.name,.list (p.vars.map aW),.list (p.body.map bX)])<50000000):p.body.length<100000000/\BC p.body/\vd p.body<50000000:=by
 simp only[cM,aV]at h;rw[<-pU]at h;have I:=pw (jF p.body);rw[G2]at I;have H:=JV p.body (by omega);exact⟨by omega,H.1,by omega⟩
end Go.Am
end
