/-
  Texts of one proof, one behind the other.
-/
import Derived.Test.YtccmboenpbjhnaaGreatDoorB6
import Derived.Shelf.Strings.Search3
import Derived.Shelf.Strings.Prefix
import Derived.LaidLaws
import Derived.JoinedCond
set_option linter.all false
section
namespace Go.Am
open Go Go.Proofs
variable [Inhabited bI]
set_option maxRecDepth 20000
theorem vU{P:Program}{g:FuncId}{fn:Func}(U:P.funcs[g]?=some fn)(V:fn.body.isSome=true)(Y:(fn.name == "runtime.NumGoroutine")=false):gE P g=true:=by
 unfold gE;rw[U];simp only[V,Y];rfl
theorem wZ{w F s v}(h:aO w F (.str s) v):∃b:ByteArray,v=.string b/\b.data.toList=s:=by
 cases h with
 |str b s h=>exact⟨b,rfl,h⟩
theorem PA{w F k n v}(h:aO w F (.int k n) v):v=.int k n:=by cases h;rfl
theorem Da{N:List D}{a b:D}{w F}{vs:Array Value}(A:N=[a,b])(I:N.length=vs.size)(E:∀(i:Nat) x v,N[i]?=some x->vs[i]?=some v->aO w F x v):
 ∃x y,vs=#[x,y]/\aO w F a x/\aO w F b y:=by
 subst A;obtain⟨l⟩:=vs;match l,I with
 |[x,y],_=>exact⟨x,y,rfl,E 0 a x rfl rfl,E 1 b y rfl rfl⟩
theorem adv{w:World}{F}(J:eG w F aC):∃m,w.cell? ⟨2,0,none⟩=some (.int .i64 m):=by
 obtain⟨_,_,q,H,M⟩:=J (2,.int .i64 (id (α:=Int) (default:bI))) (by simp[aC]);generalize id (α:=Int) (default:bI)=z at H;obtain rfl:=PA H;exact⟨z,M 0 _ (by simp[Value.cells])⟩
theorem amb:qM ctx 207 (n9 UJ):=by
 refine qM.lift ⟨vU Tryz.func207 (by kernel_rfl) (by kernel_rfl),λN d A F w vs J T I E=>?_⟩;unfold UJ at A;split at A
 ·rename_i s p;obtain⟨x,y,rfl,H,M⟩:=Da rfl I E;obtain⟨a,rfl,rfl⟩:=wZ H;obtain⟨b,rfl,rfl⟩:=wZ M;refine (Any.strings_HasPrefix aiX a b w).mono ?_;rintro e w' ⟨rfl,rfl⟩;cases A;exact⟨_,rfl,Go.RowKit.Below.refl _ _,.bool _⟩
 ·cases A
theorem amc:qM ctx 254 (n9 UI):=by
 refine qM.lift ⟨vU Tryz.func254 (by kernel_rfl) (by kernel_rfl),λN d A F w vs J T I E=>?_⟩;unfold UI at A;split at A
 ·rename_i s p;obtain⟨x,y,rfl,H,M⟩:=Da rfl I E;obtain⟨a,rfl,rfl⟩:=wZ H;obtain rfl:=PA M;refine (Any.stringslite_IndexByte adu a _ w).mono ?_;rintro e w' ⟨rfl,rfl⟩;cases A;exact⟨_,rfl,Go.RowKit.Below.refl _ _,.int _ _⟩
 ·cases A
theorem aiY:qM ctx 209 (n9 Jx):=by
 refine qM.lift ⟨vU Tryz.func209 (by kernel_rfl) (by kernel_rfl),λN d A F w vs J T I E=>?_⟩;unfold Jx at A;split at A
 ·rename_i s p;split at A
  ·rename_i Z;obtain⟨x,y,rfl,H,M⟩:=Da rfl I E;obtain⟨a,rfl,rfl⟩:=wZ H;obtain⟨b,rfl,rfl⟩:=wZ M;obtain⟨m,hm⟩:=adv J;refine (Any.strings_Index adt a b m w (by simpa using Z) hm).mono ?_;rintro e w' ⟨rfl,rfl⟩;cases A;exact⟨_,rfl,Go.RowKit.Below.refl _ _,.int _ _⟩
  ·cases A
 ·cases A
theorem adw:∀g h,ctx.wm g=some h->qM ctx g h:=by
 intro g h J;have O:Yh g=some h:=J;unfold Yh at O;split at O;all_goals first|(cases O;first|exact amb|exact amc|exact aiY)|cases O
end Go.Am
end
section
namespace Go.Am
open Go
theorem K0{P:Program}{w:World}{n:String}{d:DataW Unit}:∀{l:List (String×DataW Unit)}{ps:List MemPlace},DataW.LaidVars P w l ps->(n,d)∈l->
 ∃g t cs fuel p,P.globalNamed n=some g/\(P.globals[g]?).map (·.type)=some t/\w.var? P n=some cs/\DataW.trod (λ_=>()) P w 0 (λ_=>true) false fuel t cs.toList=some (d,p)
 |[],_,_,hm=>by simp at hm
 |(AC,AD)::r,ps,⟨g,t,cs,fuel,p,q,O,J,A,M,N,_⟩,hm=>by
  rcases abV.1 hm with hm|hm
  ·cases hm;exact⟨g,t,cs,fuel,p,O,J,A,M⟩
  ·exact K0 N hm
theorem Wz{H:Type}{enc:TypeId×Value->H}{P:Program}{w:World}{base:Nat}{sp:Nat->Bool}{held:Bool}{fuel:Nat}{t e:TypeId}{n:Nat}{k:IntKind}{cs:List Value}{U:List (DataW H)}{p:List MemPlace}
 (V:P.underlying t=some (.array n e)) (he:P.underlying e=some (.int k)) (Y:P.cellsOf e=1) (h:DataW.trod enc P w base sp held fuel t cs=some (.agg U,p)):
 cs.length=P.cellsOf t/\U.length=n/\∀i,i<n->∃z,cs[i]?=some (.int k z)/\U[i]?=some (.lit (.int k z)):=by
 cases fuel with
 |zero=>simp[DataW.trod]at h
 |succ m=>
  unfold DataW.trod at h;rw[V]at h;simp only at h;split at h
  ·rename_i Z;simp only[abS,adL,DataW.agg.injEq]at h;obtain⟨xs,A0,rfl,_⟩:=h;have O:xs.length=n:=by simpa using mapM_some_length A0
   refine⟨Z,by simpa using O,λi hi=>?_⟩;have J:=mapM_some_get A0 i i (by simp[hi]);have A:i<xs.length:=by omega
   have M:xs[i]?=some xs[i]:=by simp[A]
   rw[M,Y]at J;obtain⟨z,N,y,_⟩:=DataW.trod_int he J;refine⟨z,?_,by simp[M,y]⟩;have T:=aeK (·[0]?) N;simpa [abZ,adY]using T
  ·cases h
theorem K1{P:Program}{W:World}{l:List (String×DataW Unit)}{name:String}{g:Nat}{t e:TypeId}{n:Nat}{k:IntKind}{zs:List Int}
 (Z:laidMet P l W) (hm:(name,DataW.agg (zs.map λz=>.lit (.int k z)))∈l) (A':P.globalNamed name=some g) (A7:(P.globals[g]?).map (·.type)=some t)
 (V:P.underlying t=some (.array n e)) (he:P.underlying e=some (.int k)) (Y:P.cellsOf e=1) (AE:0<n) (A8:P.cellsOf t=n):
 (g<W.heap.size/\∀cs,D.agg (zs.map λz=>.int k z)=.agg cs->∃cur e A1,W.heap[g]?=some (.cells cur e A1)/\cur.size=cs.length)/\∃A2,aO W (λ_=>False) (.agg (zs.map λz=>.int k z)) A2/\∀(i:Nat)(c:Value),A2.cells[i]?=some c->W.cell? ⟨g,i,none⟩=some c:=by
 obtain⟨ps,I,_⟩:=Z;obtain⟨AF,AG,cs,fuel,p,O,J,A,M⟩:=K0 I hm;obtain rfl:=Option.some.inj (A'.symm.trans O);obtain rfl:=Option.some.inj (A7.symm.trans J);obtain⟨A3,N,y⟩:=Wz V he Y M;rw[A8]at A3;simp at N;have T:∀i z,zs[i]?=some z->W.cell? ⟨g,i,none⟩=some (.int k z):=by
  intro i z E;have hi:i<n:=by
   have:=(abM.1 E).1;omega
  obtain⟨A9,AA,A4⟩:=y i hi;simp[E]at A4;subst A4;rw[World.var?_cell A' A i];simpa using AA
 refine⟨⟨?_,?_⟩,.agg (zs.map λz=>Value.int k z).toArray,?_,?_⟩
 ·have E:∃z,zs[0]?=some z:=⟨zs[0]'(by omega),by simp[show 0<zs.length by omega]⟩
  obtain⟨z,E⟩:=E;exact (CT (T 0 z E)).1
 ·rintro AH AB;obtain rfl:=D.agg.inj AB;unfold World.var? at A;rw[A']at A;simp only[aeE]at A;split at A
  ·rename_i cur e' A1 hh;cases A;exact⟨_,_,_,hh,by simp at N A3⊢;omega⟩
  ·cases A
 ·refine aO.oy (by simp) (λv I=>?_) (λi c v A5 I=>?_)
  ·simp at I;obtain⟨z,_,rfl⟩:=I;rfl
  ·simp only[adK,abS]at A5 I;obtain⟨z,E,rfl⟩:=A5;obtain⟨A9,A6,rfl⟩:=I;rw[E]at A6;cases A6;exact .int k z
 ·intro i c hi;simp[Value.cells]at hi;obtain⟨z,E,rfl⟩:=hi;exact T i z E
end Go.Am
end
section
namespace Go.Am
open Go
variable {H:Type} {enc:TypeId×Value->H}
theorem SN{a:Assume}{C:Checked}{os:Os}{f:FuncId}{fn:Func}{s:OpenSpec}{k:(H:Type)->List (DataW H)->Bool}(I:s.cond=some k){A:List PathCond}{apart fresh handsOn again:Bool}{X:World->Array Value->Prop}{F:Stop.Interp}
 (J:∀(w w':World)(args:Array Value),w.heap=w'.heap->X w args->X w' args)
 (own:ownKnob C.prog.godebug=none) (started:os.Started) (q:C.prog.inits.idxOf? f=none) (y:C.prog.funcs[f]?=some fn)
 (witness:∃(w:World)(tape:Tape)(i:Input),w.os=os/\(w.forCall tape i).Shaped C.prog/\i.vars=[]/\Input.okWide C.prog (w.forCall tape i) .any w.heap.size f i/\
  ((s.pre enc C.prog fn A apart (w.forCall tape i).memory i.args/\X (w.forCall tape i).memory i.args)/\sizedMet enc C.prog fn s apart (w.forCall tape i).memory i.args)/\a.holds C.prog (lone (Frame.enter C.prog f i.args .normal) [] (w.forCall tape i)))
 (A':∀(W:World)(base:Nat)(args:Array Value)(N gs:List (DataW H))(before:List MemPlace),
  (∀(j:Nat) t v,fn.params[j]?=some t->args[j]?=some v->Value.okWide C.prog W .any base t v)->
  DataW.Whole enc C.prog fn.params.toList s.vars apart W args.toList N gs before->k H (N++gs)=true->X W args->W.ShapedOpen C.prog->
  Calls C.prog f args W λe Y=>∃v,e=.returned v/\(s.at F).post enc C.prog fn apart fresh handsOn again W args v Y):
 ReturnsInHanded a C os f .any (λw args=>(s.pre enc C.prog fn A apart w args/\X w args)/\sizedMet enc C.prog fn s apart w args) ((s.at F).post enc C.prog fn apart fresh handsOn again):=by
 refine returnsInHanded_of_calls own started q witness ?_;intro w tape i _ M _ E A0 _;obtain⟨_,_,_,A1,A2,_,_,_,_,A3⟩:=E;have e:A1=fn:=Option.some.inj (A2.symm.trans y);subst e;obtain⟨⟨O,D⟩,A6⟩:=A0;obtain⟨N,gs,before,hw,A7,T⟩:=(OpenSpec.pre_some I A apart _ _).1 O;have A4:=DataW.Whole.of_heap (w':=w.forCall tape i) (by rfl) hw;refine (A' (w.forCall tape i) w.heap.size i.args N gs before A3 A4 T (J _ _ _ (by rfl) D) M).mono λe Y ⟨v,he,O⟩=>?_;subst he;exact ChangeSpec.post_blind O
theorem E5{C:Checked}{os:Os}{f:FuncId}{fn:Func}{s:OpenSpec}{k:(H:Type)->List (DataW H)->Bool}(I:s.cond=some k){A:List PathCond}{apart:Bool}{X:World->Array Value->Prop}(modest:Bool)(w0:World)(args:Array Value)(fuel:Nat)(U:w0.os=os)
 (M:(w0.forCall (λ_ _=>0) ⟨#[],args,[]⟩).Shaped C.prog)
 (E:Input.okWideB C.prog (w0.forCall (λ_ _=>0) ⟨#[],args,[]⟩) f ⟨#[],args,[]⟩=true)
 {x:List (DataW H)×List (DataW H)×List MemPlace} (D:DataW.whole enc C.prog (w0.forCall (λ_ _=>0) ⟨#[],args,[]⟩).memory fn.params.toList s.vars apart args.toList fuel=some x)
 (A5:A.all (PathCond.test C.prog ⟨fn.params.toList,x.1,s.bare.plain.varTypes C.prog,x.2.1⟩)=true) (T:k H (x.1++x.2.1)=true)
 (V:s.bare.sizedB enc C.prog fn apart (w0.forCall (λ_ _=>0) ⟨#[],args,[]⟩).memory args fuel=true)
 (J:X (w0.forCall (λ_ _=>0) ⟨#[],args,[]⟩).memory args):
 ∃(w:World)(tape:Tape)(i:Input),w.os=os/\(w.forCall tape i).Shaped C.prog/\i.vars=[]/\Input.okWide C.prog (w.forCall tape i) .any w.heap.size f i/\
  ((s.pre enc C.prog fn A apart (w.forCall tape i).memory i.args/\X (w.forCall tape i).memory i.args)/\sizedMet enc C.prog fn s apart (w.forCall tape i).memory i.args)/\({modest:=modest}:Assume).holds C.prog (lone (Frame.enter C.prog f i.args .normal) [] (w.forCall tape i)):=
 ⟨w0,λ_ _=>0,⟨#[],args,[]⟩,U,M,(Input.okWide_of_okWideB (base:=0) E).1,(Input.okWide_of_okWideB E).2,
  ⟨⟨(OpenSpec.pre_some I A apart _ _).2 ⟨x.1,x.2.1,x.2.2,DataW.Whole_of_whole D,A5,T⟩,J⟩,sizedMet_of_sizedB V⟩,by
  simp only[Assume.holds];exact⟨by simp,by simp,λ_=>Modest.zero,by simp,by simp⟩⟩
def WA{H:Type}(enc:TypeId×Value->H)(P:Program)(s:OpenSpec)(k:(H:Type)->List (DataW H)->Bool)(A:List PathCond)(apart:Bool)(w:World)(Z:List TypeId)(args:List Value)(fuel:Nat):Bool:=
 match DataW.whole enc P w Z s.vars apart args fuel with
 |some x=>A.all (PathCond.test P ⟨Z,x.1,s.bare.plain.varTypes P,x.2.1⟩)&&k H (x.1++x.2.1)
 |none=>false
theorem E6{C:Checked}{os:Os}{f:FuncId}{fn:Func}{s:OpenSpec}{k:(H:Type)->List (DataW H)->Bool}(I:s.cond=some k){A:List PathCond}{apart:Bool}{X:World->Array Value->Prop}(modest:Bool)(w0:World)(args:Array Value)(fuel:Nat)(U:w0.os=os)
 (M:(w0.forCall (λ_ _=>0) ⟨#[],args,[]⟩).Shaped C.prog)
 (E:Input.okWideB C.prog (w0.forCall (λ_ _=>0) ⟨#[],args,[]⟩) f ⟨#[],args,[]⟩=true)
 (D:WA enc C.prog s k A apart (w0.forCall (λ_ _=>0) ⟨#[],args,[]⟩).memory fn.params.toList args.toList fuel=true)
 (V:s.bare.sizedB enc C.prog fn apart (w0.forCall (λ_ _=>0) ⟨#[],args,[]⟩).memory args fuel=true)
 (J:X (w0.forCall (λ_ _=>0) ⟨#[],args,[]⟩).memory args):
 ∃(w:World)(tape:Tape)(i:Input),w.os=os/\(w.forCall tape i).Shaped C.prog/\i.vars=[]/\Input.okWide C.prog (w.forCall tape i) .any w.heap.size f i/\
  ((s.pre enc C.prog fn A apart (w.forCall tape i).memory i.args/\X (w.forCall tape i).memory i.args)/\sizedMet enc C.prog fn s apart (w.forCall tape i).memory i.args)/\({modest:=modest}:Assume).holds C.prog (lone (Frame.enter C.prog f i.args .normal) [] (w.forCall tape i)):=by
 unfold WA at D;split at D
 ·rename_i x hw;simp only[Ds]at D;exact E5 I modest w0 args fuel U M E hw D.1 D.2 V J
 ·cases D
end Go.Am
end
