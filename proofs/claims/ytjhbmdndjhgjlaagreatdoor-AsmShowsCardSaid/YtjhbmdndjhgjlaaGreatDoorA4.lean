/-
  Texts of one proof, one behind the other.
-/
import Derived.Test.YtjhbmdndjhgjlaaGreatDoorA1
import Derived.Test.YtjhbmdndjhgjlaaGreatDoorA2
import Derived.Test.YtjhbmdndjhgjlaaGreatDoorA3
import Derived.ProofKit
import Derived.ChangeArms
import Derived.ChangeCalls
import Derived.LaidLaws
import Derived.SizedLaws
import Derived.Handed
import Derived.Shelf.Vars
set_option linter.all false
section
namespace Go.Am
open Go
set_option maxRecDepth 20000
set_option maxHeartbeats 4000000
def jW(A:Int->Nat)(len cells at_:Int)(x:Ins):Bool:=
 if x.op=1\/x.op=11 then true
 else if x.op=2\/x.op=3\/x.op=6\/x.op=14 then iZ cells x.a 1
 else if x.op=13 then iZ cells x.a 1&&iZ cells x.b 2
 else if x.op=4\/x.op=5\/x.op=7 then decide (0<=x.n)&&decide (x.m<=255)&&decide (x.n<=x.m)&&iZ cells x.a (x.m-x.n+1)
 else if x.op=8 then nM x
 else if x.op=9\/x.op=10 then decide (0<=x.a)&&decide (x.a<len)
 else if x.op=12 then decide (0<A x.b)&&iZ cells x.a (A x.b)
 else if x.op=15 then decide (at_=len-1)
 else false
def A7{A:Int->Nat}{len cells at_:Int}{x:Ins}(I:0<=cells/\cells<=8192):jW A len cells at_ x=ea A cells (len-1) at_ x:=by
 unfold jW ea BW;have M:=mr (cells:=cells) (at_:=x.a) (n:=1) I (by omega);have c2:=mr (cells:=cells) (at_:=x.b) (n:=2) I (by omega);rw[M,c2];have A5:(decide (0<=x.n)&&decide (x.m<=255)&&decide (x.n<=x.m)&&iZ cells x.a (x.m-x.n+1))=(decide (0<=x.n)&&decide (x.n<=x.m)&&decide (x.m<=255)&&jr cells x.a (x.m-x.n+1)):=by
  by_cases h:x.n<=x.m
  .rw[mr (cells:=cells) (at_:=x.a) (n:=x.m-x.n+1) I (by omega)];cases decide (0<=x.n)<;>cases decide (x.m<=255)<;>simp[h]
  .simp[h]
 rw[A5];have A6:(decide (0<A x.b)&&iZ cells x.a (A x.b))=(decide (0<A x.b)&&jr cells x.a (A x.b)):=by
  by_cases h:0<A x.b
  .rw[mr (cells:=cells) (at_:=x.a) (n:=A x.b) I (by omega)]
  .simp[h]
 rw[A6];have A8:decide (x.a<len)=decide (x.a<=len-1):=by rw[Bool.eq_iff_iff];simp only[WV];omega
 rw[A8]
def iX(x:Ins):Nat×Nat×Bool×Bool:=
 if x.op=1 then (0,1,false,decide (x.n=0)||decide (x.n=1))
 else if x.op=2 then (0,1,false,false)
 else if x.op=3\/x.op=13\/x.op=14 then (0,1,false,true)
 else if x.op=4\/x.op=5 then (1,1,false,decide (x.op=5))
 else if x.op=6 then (1,0,false,false)
 else if x.op=7 then (2,0,false,false)
 else if x.op=8 then (if x.b<8 then 1 else 2,1,decide (x.a=1),decide (x.b=7)||decide (12<x.b))
 else if x.op=10 then (1,0,true,false)
 else (0,0,false,false)
def ff(need:Bool):Nat->List Bool->Option (List Bool)
 |0,S=>some S
 |n+1,S=>if need&&!(S.getLastD true)then none else ff need n S.dropLast
def vS(x:Ins)(S:List Bool):Option (List Bool):=
 if S.length<(iX x).1 then none else
 match ff (iX x).2.2.1 (iX x).1 S with
 |none=>none
 |some S1=>
  let O:=if 0<(iX x).2.1 then S1++[(iX x).2.2.2]else S1
  if 64<O.length||(decide (0<O.length)&&(decide (x.op=9)||decide (x.op=10)||decide (x.op=11)||decide (x.op=12)||decide (x.op=15)))then none else some O
def tG{need:Bool}:∀{n:Nat}{S:List Bool},n<=S.length->ff need n S=dj n need S
 |0,S,h=>by simp[ff,dj]
 |n+1,S,h=>by
  have A9:S≠[]:=by intro AA;simp[AA]at h
  obtain⟨D,b,rfl⟩:∃D b,S=D++[b]:=⟨S.dropLast,S.getLast A9,(List.dropLast_concat_getLast _).symm⟩;have U:n<=D.length:=by simpa using h
  have ih:=tG (need:=need) (n:=n) (S:=D) U;unfold ff;rw[show (D++[b]).getLastD true=b by simp,List.dropLast_concat,ih];unfold dj;have J:(D++[b]).length -(n+1)=D.length-n:=by simp
  have M:¬((D++[b]).length<n+1):=by omega
  have c2:¬(D.length<n):=by omega
  rw[WO M,WO c2,J,List.drop_append_of_le_length (by omega),List.take_append_of_le_length (by omega)];cases need<;>cases b<;>simp
def GX{A:Int->Nat}{cells last at_:Int}{x:Ins}{S:List Bool}(E:ea A cells last at_ x=true)(U:S.length<=64):vS x S=ia x S:=by
 have H:∀(t:Bool)(S1:List Bool),cx t S1=if 64<(S1++[t]).length then none else some (S1++[t]):=by
  intro t S1;unfold cx;by_cases h:S1.length<64
  .rw[W2 h,WO (by simp;omega)]
  .rw[WO h,W2 (by simp;omega)]
 have he:∀S1:List Bool,hZ S1=if 0<S1.length then none else some S1:=by
  intro S1;cases S1<;>simp[hZ]
 have AB:∀{n t S1},dj n t S=some S1->S1.length<=64:=by
  intro n t S1 h;unfold dj at h;split at h
  .cases h
  .split at h
   .cases h
   .cases h;simp;omega
 have AC:∀{n t},S.length<n->dj n t S=none:=by
  intro n t h;unfold dj;rw[W2 h]
 --AH is taken,by cases
 have key:∀(n:Nat)(t:Bool)(f:List Bool->Option (List Bool)),(if S.length<n then none else match ff t n S with|none=>none|some S1=>f S1)=(dj n t S).bind f:=by
  intro n t f;by_cases h:S.length<n
  .rw[W2 h,AC h];rfl
  .rw[WO h,tG (by omega)];cases dj n t S<;>rfl
 have V:∀(n:Nat)(t:Bool),(dj n t S).bind (λS1=>if 64<S1.length then none else some S1)=dj n t S:=by
  intro n t;cases h:dj n t S with
  |none=>rfl
  |some S1=>have:=AB h;simp;omega
 have t0:∀t,dj 0 t S=some S:=by intro t;simp[dj]
 unfold vS;rw[key];unfold ea at E;unfold ia iX;by_cases J:x.op=1
 .simp[J,t0,H]
 by_cases W:x.op=2
 .simp[W,t0,H]
 by_cases Y:x.op=3
 .simp[Y,t0,H]
 by_cases Z:x.op=13
 .simp[Z,t0,H]
 by_cases c:x.op=14
 .simp[c,t0,H]
 by_cases q:x.op=4
 .simp[q];congr 1;funext S1;rw[H];simp
 by_cases y:x.op=5
 .simp[y];congr 1;funext S1;rw[H];simp
 by_cases A':x.op=6
 .simp[A'];exact V _ _
 by_cases A0:x.op=7
 .simp[A0];exact V _ _
 by_cases T:x.op=8
 .simp[T]at E;have AI:x.b=6\/x.b=7\/8<=x.b:=by
   unfold nM at E;split at E
   .simp at E;omega
   .split at E
    .simp at E;omega
    .cases E
  have AD:(if x.b=6\/x.b=7 then 1 else 2:Nat)=if x.b<8 then 1 else 2:=by
   by_cases h:x.b<8
   .rw[W2 h,W2 (by omega)]
   .rw[WO h,WO (by omega)]
  have AE:(decide (x.b=7)||decide (13<=x.b))=(decide (x.b=7)||decide (12<x.b)):=by
   rw[Bool.eq_iff_iff];simp only[Bool.or_eq_true,WV];omega
  simp only[T,AD,AE];simp;congr 1;funext S1;rw[H];simp
 have A1:∀S1:List Bool,(if (decide (64<S1.length)||decide (0<S1.length))=true then none else some S1)=hZ S1:=by
  intro S1;rw[he];cases S1<;>simp
 by_cases A2:x.op=10
 .simp only[A2];simp;congr 1;funext S1;have:=A1 S1;simpa using this
 have AF:x.op=9\/x.op=11\/x.op=12\/x.op=15:=by
  by_cases a9:x.op=9
  .exact .inl a9
  by_cases A3:x.op=11
  .exact .inr (.inl A3)
  by_cases a12:x.op=12
  .exact .inr (.inr (.inl a12))
  by_cases A4:x.op=15
  .exact .inr (.inr (.inr A4))
  simp[J,W,Y,q,y,A',A0,T,A2,Z,c,a9,A3,a12,A4]at E
 have AG:=A1 S;rcases AF with h|h|h|h<;>simp[h,t0]<;>simpa using AG
abbrev Ln:=Option (Out×List (Nat×ax))
def Lo(c:Prop)[Decidable c](a b:Bool)(l:List (Nat×ax)):(if c then (some (Out.ret (.d (.bool a)),l):Ln)else some (Out.ret (.d (.bool b)),l))=some (Out.ret (.d (.bool (if c then a else b))),l):=by split<;>rfl
def GY(a b:Bool)(l:List (Nat×ax)):(some (Out.ret (.d (.bool a)),l):Ln)=some (Out.ret (.d (.bool b)),l)↔(a=true↔b=true):=by
 cases a<;>cases b<;>simp
end Go.Am
end
section
namespace Go.Am
open Go Go.ChangeShapes Go.WideShapes Go.RowKit
def vT(P:Program)(ok:TypeId->Bool):List Field->Nat->Nat->Bool
 |[],o,A6=>o == A6
 |f::r,o,A6=>f.offset == o&&ok f.type&&vT P ok r (o+P.cellsOf f.type) A6
def l3(P:Program):Nat->TypeId->Bool
 |0,_=>false
 |n+1,t=>match P.underlying t with
  |some .bool|some (.int _)|some .string=>P.cellsOf t == 1
  |some (.slice e)=>P.cellsOf t == 1&&l3 P n e&&decide (1<=P.cellsOf e)
  |some (.struct fs)=>vT P (l3 P n) fs.toList 0 (P.cellsOf t)
  |_=>false
def typed(P:Program):Nat->TypeId->D->Prop
 |0,_,_=>False
 |n+1,t,d=>match P.underlying t with
  |some .bool=>∃b,d=.bool b
  |some (.int k)=>∃z,d=.int k z/\(Lit.int k z).wf=true
  |some .string=>∃s,d=.str s/\s.length<=maxLen
  |some (.slice e)=>∃xs,d=.list xs/\xs.length<=maxLen/\∀x∈xs,typed P n e x
  |some (.struct fs)=>∃M:List D,d=.agg (M.flatMap D.cells)/\M.length=fs.size/\∀(i:Nat)(f:Field)(y:D),fs[i]?=some f->M[i]?=some y->typed P n f.type y
  |_=>False
def Reads(w:World)(F:Nat->Prop)(d:D)(cs:List Value):Prop:=
 d.cells.length=cs.length/\(∀u∈cs,bd u=true)/\∀(i:Nat) c u,d.cells[i]?=some c->cs[i]?=some u->ar w F c u/\c.flat=true
def Reads.one{w F d v}(h:ar w F d v)(I:d.flat=true)(J:d.cells=[d]):Reads w F d [v]:=by
 refine⟨by rw[J];rfl,λu hu=>?_,λi c u A O=>?_⟩
 .simp at hu;subst hu;exact h.one I
 .rw[J]at A;cases i with
  |zero=>simp at A O;subst A;subst O;exact⟨h,I⟩
  |succ i=>simp at A
def shaped(d:D)(cs:List Value):Value:=
 match d with
 | .agg _=>.agg cs.toArray
 |_=>cs.headD undef
def Reads.rel{w F d cs}(h:Reads w F d cs):ar w F d (shaped d cs):=by
 obtain⟨A,O,q⟩:=h;have key:d.flat=true->d.cells=[d]->ar w F d (cs.headD undef):=by
  intro I J;rw[J]at A q;match cs,A with
  |[u],_=>exact (q 0 d u rfl rfl).1
 cases d with
 |agg AJ=>exact ar.jM A O (λi c v J AK=>(q i c v J AK).1)
 |_=>exact key rfl rfl
def Reads.Ap{w F d cs}(h:Reads w F d cs):(shaped d cs).cells.toList=cs:=by
 obtain⟨A,O,q⟩:=h;have key:d.cells=[d]->(cs.headD undef).cells.toList=cs:=by
  intro J;rw[J]at A;match cs,A,O with
  |[u],_,O=>simp only[List.headD];rw[bV (O u (by simp))]
 cases d with
 |agg AJ=>simp[shaped,Value.cells]
 |_=>exact key rfl
def vU{w:World}{base:Nat}{a:Addr}{n:Nat}{cs:List Value}(h:w.cells? base a n=some cs):cs.length=n/\∀j,j<n->w.cell? (a.add j)=cs[j]?:=by
 unfold World.cells? at h;split at h
 .exact⟨by simpa using mapM_some_length h,λj A0=>mapM_some_get h j j (by simp[A0])⟩
 .cases h
def add_add{b off n j:Nat}:(Addr.add (Addr.add ⟨b,off,none⟩ n) j)=⟨b,off+n+j,none⟩:=by
 unfold Addr.add;split<;>split<;>simp_all
def qx{w:World}{a:Addr}{c:Value}(h:w.cell? a=some c):a.block<w.heap.size/\a.spot=none:=by
 unfold World.cell? at h;split at h
 .rename_i hh;refine⟨(WU.1 hh).1,?_⟩;split at h
  .cases h
  .rename_i AL;simpa using AL
 .cases h
def sn{P:Program}{w:World}{F:Nat->Prop}{n:Nat}{cs:List Value}{ok:TypeId->Bool}:∀(fs:List Field)(o:Nat),vT P ok fs o cs.length=true->
 (∀f∈fs,ok f.type=true->∃d,typed P n f.type d/\Reads w F d ((cs.drop f.offset).take (P.cellsOf f.type))/\d.cells.length=P.cellsOf f.type)->
 ∃M:List D,M.length=fs.length/\(∀(i:Nat)(f:Field)(y:D),fs[i]?=some f->M[i]?=some y->typed P n f.type y)/\o<=cs.length/\Reads w F (.agg (M.flatMap D.cells)) (cs.drop o)
 |[],o,T,_=>by
  simp only[vT,beq_iff_eq]at T;subst T;exact⟨[],rfl,λi f y I=>by simp at I,Ds _,by simp[D.cells],by simp,λi c u A=>by simp[D.cells]at A⟩
 |f::r,o,T,I=>by
  simp only[vT,WJ,beq_iff_eq]at T;obtain⟨⟨rfl,A7⟩,AM⟩:=T;obtain⟨M,A,O,q,W⟩:=sn r _ AM (λA8 AN=>I A8 (by simp[AN]));obtain⟨d,V,A1,Z⟩:=I f (by simp) A7;refine⟨d::M,by simp[A],λi A8 y hi U=>?_,by omega,?_⟩
  .cases i with
   |zero=>simp at hi U;subst hi;subst U;exact V
   |succ i=>simp at hi U;exact O i A8 y hi U
  .have AO:cs.drop f.offset=(cs.drop f.offset).take (P.cellsOf f.type)++cs.drop (f.offset+P.cellsOf f.type):=by
    rw[<-List.drop_drop,XV]
   obtain⟨AF,a2,a3⟩:=A1;obtain⟨AP,AQ,AR⟩:=W;have AS:(D.agg ((d::M).flatMap D.cells)).cells=d.cells++(D.agg (M.flatMap D.cells)).cells:=by simp[D.cells]
   rw[AO];unfold Reads;rw[AS];refine⟨by simp only[WY,AF,AP],λu hu=>?_,λi c u J hu=>?_⟩
   .rcases Xe.1 hu with hu|hu
    .exact a2 u hu
    .exact AQ u hu
   .by_cases hi:i<d.cells.length
    .rw[WN hi]at J;rw[WN (by omega)]at hu;exact a3 i c u J hu
    .rw[WT (by omega)]at J;rw[WT (by omega)]at hu;rw[<-AF]at hu;exact AR _ c u J hu
section
variable {H:Type} {enc:TypeId×Value->H} {P:Program} {w:World} {base:Nat} {sp:Nat->Bool} {held:Bool}
theorem so:∀(n:Nat)(m:Nat)(t:TypeId)(cs:List Value)(x:DataW H×List MemPlace),l3 P n t=true->DataW.trod enc P w base sp held m t cs=some x->
 ∃d,typed P n t d/\Reads w (λ_=>False) d cs/\d.cells.length=P.cellsOf t
 |0,_,_,_,_,E,_=>by cases E
 |n+1,m,t,cs,x,E,Y=>by
  simp only[l3]at E;simp only[typed];cases T:P.underlying t with
  |none=>rw[T]at E;cases E
  |some u=>
   rw[T]at E;cases u with
   |bool=>
    obtain⟨b,rfl,_⟩:=DataW.trod_bool T Y;exact⟨.bool b,⟨b,rfl⟩,Reads.one (.bool b) rfl rfl,by simp at E;simp[D.cells,E]⟩
   |int k=>
    obtain⟨z,rfl,_,hw⟩:=DataW.trod_int T Y;exact⟨.int k z,⟨z,rfl,hw⟩,Reads.one (.int k z) rfl rfl,by simp at E;simp[D.cells,E]⟩
   |string=>
    obtain⟨s,rfl,_,hw⟩:=DataW.trod_string T Y;exact⟨.str s.data.toList,⟨_,rfl,by simpa using hw⟩,Reads.one (.str s _ rfl) rfl rfl,by simp at E;simp[D.cells,E]⟩
   |slice e=>
    simp only[WJ,beq_iff_eq,WV]at E;obtain⟨⟨A,O⟩,q⟩:=E;rcases DataW.trod_slice T Y with ⟨rfl,_⟩|⟨a,len,cap,elems,rest,m',rfl,rfl,_,Ac,AT,Ad,Ae,A2,_⟩
    .exact⟨.list [],⟨[],rfl,by simp,by simp⟩,Reads.one (.nil none 0 (λ_=>rfl)) rfl rfl,by simp[D.cells,A]⟩
    .have AU:∀i,∃p:D×Value,i<len->typed P n e p.1/\ar w (λ_=>False) p.1 p.2/\p.1.size=P.cellsOf e/\a.block<w.heap.size/\a.spot=none/\
      ∀j c,p.2.cells[j]?=some c->w.cell? ⟨a.block,a.off+i*P.cellsOf e+j,none⟩=some c:=by
      intro i;by_cases hi:i<len
      .have W:=A2 i hi;have A3:∃y,elems[i]?=some y:=⟨elems[i]'(by omega),by simp[show i<elems.length by omega]⟩
       obtain⟨y,U⟩:=A3;rw[U]at W;simp only[Xr]at W;obtain⟨A9,AV,AW⟩:=W;obtain⟨d,V,A1,Z⟩:=so n m' e A9 y O AW;obtain⟨g1,g2⟩:=vU AV;have g3:a.block<w.heap.size/\a.spot=none:=by
        have AA:∃i0,i0<len/\i0=0:=⟨0,by omega,rfl⟩;have AB:=A2 0 (by omega);have AX:∃y,elems[0]?=some y:=⟨elems[0]'(by omega),by simp[show 0<elems.length by omega]⟩
        obtain⟨Af,AY⟩:=AX;rw[AY]at AB;simp only[Xr]at AB;obtain⟨AC,AZ,_⟩:=AB;obtain⟨Ag,A_⟩:=vU AZ;have A':=A_ 0 (by omega);have A4:∃c,AC[0]?=some c:=⟨AC[0]'(by omega),by simp[show 0<AC.length by omega]⟩
        obtain⟨c,J⟩:=A4;rw[J]at A';have A5:=qx A';simpa [Addr.add]using A5
       refine⟨⟨d,shaped d A9⟩,λ_=>⟨V,A1.rel,by rw[<-D.db];exact Z,g3.1,g3.2,λj c A0=>?_⟩⟩;have A':=A1.Ap;have A4:A9[j]?=some c:=by rw[<-A'];simpa using A0
       have Aa:j<P.cellsOf e:=by
        have:=(D1.1 A4).1;omega
       have A5:=g2 j Aa;obtain⟨AG,ao,AD⟩:=a;obtain rfl:AD=none:=g3.2;rw[add_add]at A5;rw[A5];exact A4
      .exact⟨⟨.bool false,undef⟩,λh=>absurd h hi⟩
     obtain⟨f,I⟩:=Xd AU;refine⟨.list ((List.range len).map λi=>(f i).1),⟨_,rfl,by simp;omega,λx Y=>?_⟩,Reads.one ?_ rfl rfl,by simp[D.cells,A]⟩
     .simp only[WS,W5]at Y;obtain⟨i,hi,rfl⟩:=Y;exact (I i hi).1
     .by_cases Z:len=0
      .subst Z;exact .nil (some a) cap (λh=>by cases h)
      .have AA:=I 0 (by omega);obtain⟨AG,ao,AD⟩:=a;obtain rfl:AD=none:=AA.2.2.2.2.1;have AE:((List.range len).map λi=>(f i).1).length=len:=by simp
       have:=ar.list (w:=w) (F:=λ_=>False) ((List.range len).map λi=>(f i).1) AG ao cap (P.cellsOf e) (λi=>(f i).2) (by rw[AE];exact AT) AA.2.2.2.1 (λh=>h)
        (λd V=>by
         simp only[WS,W5]at V;obtain⟨i,hi,rfl⟩:=V;exact (I i hi).2.2.1)
        (λi d V=>by
         simp only[WZ,WH]at V;obtain⟨Ah,Ab,rfl⟩:=V;have:=D1.1 Ab;obtain⟨AH,AI⟩:=this;simp at AH AI;subst AI;exact (I _ AH).2.1)
        (λi j c hi A0=>by
         rw[AE]at hi;exact (I i hi).2.2.2.2.2 j c A0)
       rw[AE]at this;exact this
   |struct fs=>
    obtain⟨xs,m',rfl,_,Z,Ai,A2⟩:=DataW.trod_struct T Y;simp only at E;rw[<-Z]at E;obtain⟨M,A,O,_,W⟩:=sn (n:=n) (w:=w) (F:=λ_=>False) fs.toList 0 E (λf I A7=>by
     obtain⟨i,hi,he⟩:=X0.1 I;have A3:=A2 i f (by simp at hi he;simp[hi,he]);have A':∃y,xs[i]?=some y:=⟨xs[i]'(by simp at hi;omega),by simp[show i<xs.length by simp at hi;omega]⟩
     obtain⟨y,U⟩:=A';rw[U]at A3;exact so n m' f.type _ y A7 A3)
    refine⟨.agg (M.flatMap D.cells),⟨M,rfl,by simpa using A,λi f y hi U=>O i f y (by simpa using hi) U⟩,by simpa using W,?_⟩;have:=W.1;rw[this];simpa using Z
   |_=>cases E
end
end Go.Am
end
section
namespace Go.Am
open Go Go.ChangeShapes Go.WideShapes Go.RowKit
section
variable {H:Type} {enc:TypeId×Value->H} {P:Program} {w:World} {base:Nat} {sp:Nat->Bool} {held:Bool}
theorem IT{n:Nat}{t:TypeId}{v:Value}{d:DataW H}{ps:List MemPlace}{b0:Nat}(V:l3 P n t=true)(J:Value.okWide P w .any b0 t v)(h:DataW.Trod enc P w base sp held t v d ps):
 ∃x,typed P n t x/\ar w (λ_=>False) x v:=by
 obtain⟨m,hm⟩:=h;obtain⟨x,E,AO,_⟩:=so n m t _ _ V hm;refine⟨x,E,?_⟩;have O:=AO.rel;cases n with
 |zero=>cases V
 |succ n=>
  simp only[l3]at V;simp only[typed]at E;cases I:P.underlying t with
  |none=>rw[I]at V;cases V
  |some u=>
   rw[I]at V E;cases u with
   |bool=>obtain⟨b,rfl⟩:=okWide_bool I J;obtain⟨y,rfl⟩:=E;exact O
   |int k=>obtain⟨b,rfl⟩:=okWide_int I J;obtain⟨y,rfl,_⟩:=E;exact O
   |string=>obtain⟨b,rfl⟩:=okWide_string I J;obtain⟨y,rfl,_⟩:=E;exact O
   |slice e=>obtain⟨a,len,cap,rfl⟩:=okWide_slice I J;obtain⟨y,rfl,_⟩:=E;exact O
   |struct fs=>
    simp only[Value.okWide,I]at J;obtain⟨cs,rfl,_⟩:=J;obtain⟨A1,rfl,_⟩:=E;simpa [shaped,Value.cells]using O
   |_=>cases V
theorem Aq{n b0:Nat}:∀{Y:List TypeId}{vs:List Value}{A:List (DataW H)}{ps:List MemPlace},DataW.TrodAll enc P w base sp held Y vs A ps->(∀t∈Y,l3 P n t=true)->
 (∀(j:Nat) t v,Y[j]?=some t->vs[j]?=some v->Value.okWide P w .any b0 t v)->
 ∃xs:List D,xs.length=vs.length/\xs.length=Y.length/\(∀(i:Nat) t x,Y[i]?=some t->xs[i]?=some x->typed P n t x)/\∀(i:Nat) x v,xs[i]?=some x->vs[i]?=some v->ar w (λ_=>False) x v
 |[],[],[],_,_,_,_=>⟨[],rfl,rfl,λi t x h=>by simp at h,λi x v h=>by simp at h⟩
 |t::Y,v::vs,d::A,ps,h,V,J=>by
  obtain⟨p,q,O,A',_⟩:=h;obtain⟨x,E,A4⟩:=IT (V t (by simp)) (J 0 t v rfl rfl) O;obtain⟨xs,g1,g2,g3,g4⟩:=Aq A' (λt I=>V t (by simp[I])) (λj t v T U=>J (j+1) t v (by simpa using T) (by simpa using U));refine⟨x::xs,by simp[g1],by simp[g2],λi AP AB T U=>?_,λi AB AQ T U=>?_⟩
  .cases i with
   |zero=>simp at T U;subst T;subst U;exact E
   |succ i=>simp at T U;exact g3 i AP AB T U
  .cases i with
   |zero=>simp at T U;subst T;subst U;exact A4
   |succ i=>simp at T U;exact g4 i AB AQ T U
 |[],_::_,_,_,h,_,_=>by cases h
 |[],[],_::_,_,h,_,_=>by cases h
 |_::_,[],_,_,h,_,_=>by cases h
 |_::_,_::_,[],_,h,_,_=>by cases h
theorem qP(A3:laidOutB P=true){W A0:World}(M:Below W.heap.size W A0):∀{Y:List TypeId}{vs:List Value}{A:List (DataW H)}{ps:List MemPlace},DataW.TrodAll enc P W 0 (λ_=>true) true Y vs A ps->
 (∀t∈Y,P.readableRec t=true/\t<P.types.size)->(∀x∈ps,x.block<W.heap.size)->DataW.TrodAll enc P A0 0 (λb=>decide (b<W.heap.size)) true Y vs A ps
 |[],[],[],_,h,_,_=>h
 |t::Y,v::vs,d::A,ps,h,V,AA=>by
  obtain⟨p,q,O,A',rfl⟩:=h;exact⟨p,q,Below.trod A3 (V t (by simp)).1 (V t (by simp)).2 O M (λx E=>AA x (by simp[E])),qP A3 M A' (λt I=>V t (by simp[I])) (λx E=>AA x (by simp[E])),rfl⟩
 |[],_::_,_,_,h,_,_=>by cases h
 |[],[],_::_,_,h,_,_=>by cases h
 |_::_,[],_,_,h,_,_=>by cases h
 |_::_,_::_,[],_,h,_,_=>by cases h
end
section
variable {P:Program} {n:Nat} {t:TypeId} {d:D}
def wM(P:Program)(n:Nat):List Field->List D->Prop
 |[],A=>A=[]
 |f::r,A=>∃y AI,typed P n f.type y/\wM P n r AI/\A=y.cells++AI
theorem vV:∀{fs:List Field}{A1:List D},A1.length=fs.length->(∀(i:Nat)(f:Field)(y:D),fs[i]?=some f->A1[i]?=some y->typed P n f.type y)->wM P n fs (A1.flatMap D.cells)
 |[],[],_,_=>rfl
 |f::fs,y::A1,h,AJ=>⟨y,A1.flatMap D.cells,AJ 0 f y rfl rfl,vV (by simpa using h) (λi f y O A'=>AJ (i+1) f y (by simpa using O) (by simpa using A')),by simp⟩
theorem iC{k:IntKind}(I:P.underlying t=some (.int k))(h:typed P (n+1) t d):∃z,d=.int k z/\(Lit.int k z).wf=true:=by simpa only[typed,I]using h
theorem A8{e:TypeId}(I:P.underlying t=some (.slice e))(h:typed P (n+1) t d):∃xs,d=.list xs/\xs.length<=maxLen/\∀x∈xs,typed P n e x:=by simpa only[typed,I]using h
theorem sq{fs:Array Field}(I:P.underlying t=some (.struct fs))(h:typed P (n+1) t d):∃A,d=.agg A/\wM P n fs.toList A:=by
 simp only[typed,I]at h;obtain⟨A1,rfl,O,A'⟩:=h;exact⟨_,rfl,vV (by simpa using O) (λi f y T U=>A' i f y (by simpa using T) U)⟩
end
def Ls(X:Ctx):Bool:=
 (List.range X.P.funcs.size).all (λg=>match X.P.funcs[g]? with|some fn=>fn.name != "runtime.NumGoroutine" &&(match fn.body with|some c=>!((X.fp g).sites.all λk=>decide (100<=k))||cw X g fn.ntmps c|none=>true)|none=>true)&&X.P.follows .mixedOrders&&X.ov.isNone
def jC(X:Ctx)(g:FuncId)(h:List AV->Option AV):Prop:=dF X.P g=true/\∀(A5:List AV)(a:AV),h A5=some a->∀(φ:aR)(F:Nat->Prop)(w:World)(vs:Array Value),bY w F X.gl->(∀b,F b->b<w.heap.size)->A5.length=vs.size->
 (∀(i:Nat) x v,A5[i]?=some x->vs[i]?=some v->ai φ w F x v)->Calls X.P g vs w λe w'=>∃v,e=.returned v/\Below w.heap.size w w'/\ai φ w' F a v
def jC.lift{X:Ctx}{g:FuncId}{h:List D->Option D}(hh:dF X.P g=true/\∀(A:List D) (d:D),h A=some d->∀(F:Nat->Prop) (w:World) (vs:Array Value),bY w F X.gl->(∀b,F b->b<w.heap.size)->A.length=vs.size->
 (∀(i:Nat) x v,A[i]?=some x->vs[i]?=some v->ar w F x v)->Calls X.P g vs w λe w'=>∃v,e=.returned v/\Below w.heap.size w w'/\ar w' F d v):jC X g (jB h):=by
 refine⟨hh.1,λA5 a A6 φ F w vs AR AS A3 A4=>?_⟩;unfold jB at A6;cases AC:toDs A5 with
 |none=>rw[AC]at A6;cases A6
 |some A=>
  rw[AC]at A6;obtain⟨d,AD,rfl⟩:=WH.1 A6;have he:=toDs_eq AC;subst he;refine (hh.2 A d AD F w vs AR AS (by simpa using A3) (λi x v E J=>?_)).mono ?_
  .have:=A4 i (.d x) v (by simp[E]) J;cases this with|d _ _ h=>exact h
  .rintro e w' ⟨v,rfl,M,J⟩;exact⟨v,rfl,M,.d _ _ J⟩
def fI.of{X:Ctx}(h:Ls X=true)(A7:∀g h,X.qK g=some h->jC X g h):fI X:=by
 simp only[Ls,WJ,W7,W5]at h;have key:∀(g:FuncId)(fn:Func),X.P.funcs[g]?=some fn->fn.name≠ "runtime.NumGoroutine" /\(match fn.body with|some c=>!((X.fp g).sites.all λk=>decide (100<=k))||cw X g fn.ntmps c|none=>true)=true:=by
  intro g fn Z;have O:=h.1.1 g (WU.1 Z).1;rw[Z]at O;simpa using O
 refine⟨by simpa using h.2,λg fn Z=>(key g fn Z).1,λg fn c Z M A9=>?_,h.1.2,A7⟩;have:=(key g fn Z).2;rw[M]at this;have e:((X.fp g).sites.all λk=>decide (100<=k))=true:=W7.2 λk A2=>decide_eq_true (A9 k A2);simpa [e]using this
def OK:Fr:=⟨λ_=>False,[]⟩
def Ft{X:Ctx}(AE:fI X){f:FuncId}{b:Bool}{xs:List D}(AT:au X f (xs.map .d) []=some (.ret (.d (.bool b)),[])){W:World}{args:Array Value}(A3:xs.length=args.size)
 (A4:∀(i:Nat) x v,xs[i]?=some x->args[i]?=some v->ar W (λ_=>False) x v) (Z:bY W (λ_=>False) X.gl):
 Calls X.P f args W λe A0=>e=.returned (.bool b)/\Below W.heap.size W A0:=by
 have h:=(GG AE f _ _ _ _ AT).2;have AK:∀b,Fo OK (λ_=>none) (bS 0 []) b->False:=by
  intro b M;rcases M with M|⟨e,he,_⟩
  .exact M
  .simp[bS]at he
 refine (h (λ_=>none) OK W args ⟨by simp[bS],λk L AU=>by simp at AU,λe he=>by simp[bS]at he,λe he=>by simp[bS]at he,λb ⟨e,he,_⟩=>by simp[bS]at he,λb M=>M.elim⟩
  (Z.mono (λ_ _ _=>rfl) (Ds _) (λb _ M=>AK b M)) (by simpa using A3) (λi x v E J=>?_)).mono ?_
 .simp only[WZ,WH]at E;obtain⟨d,AD,rfl⟩:=E;exact .d d v ((A4 i d v AD J).mono (λ_ _ _=>rfl) (Ds _) (λb _ M=>AK b M))
 .rintro e A0 ⟨φ',m',out,⟨rfl,rfl⟩,hm,A2,A7⟩;refine⟨?_,A2.os,A2.tape,A2.output,A2.size,λk AW=>A2.qT k AW (λ⟨e,he,_⟩=>by simp[bS]at he)⟩;cases e with
  |returned v=>
   simp only[jf]at A7;cases A7 with
   |d x v h=>cases h;rfl
  |_=>exact A7.elim
section
variable {H:Type} {enc:TypeId×Value->H}
theorem Ar{X:Ctx}(AE:fI X){f:FuncId}{fn:Func}{s:ChangeSpec}{apart fresh handsOn:Bool}{n:Nat}{tb:TypeId}
 (AX:laidOutB X.P=true) (AF:(fn.params.toList.all λt=>X.P.readableRec t&&decide (t<X.P.types.size)&&l3 X.P n t)=true)
 (AY:fn.resultTypes=#[tb]) (AZ:X.P.underlying tb=some .bool) (AL:s.vars=[])
 (A_:∀A:List (DataW H),A.length=fn.params.size->s.fn H A={results:=[.lit (.bool true)],args:=A})
 {W:World} {base:Nat} {args:Array Value} {A gs:List (DataW H)} {before:List MemPlace}
 (Aa:∀(j:Nat) t v,fn.params[j]?=some t->args[j]?=some v->Value.okWide X.P W .any base t v)
 (AM:DataW.Whole enc X.P fn.params.toList s.vars apart W args.toList A gs before) (Z:bY W (λ_=>False) X.gl)
 (Ab:∀xs:List D,xs.length=fn.params.size->(∀(i:Nat) t x,fn.params[i]?=some t->xs[i]?=some x->typed X.P n t x)->au X f (xs.map .d) []=some (.ret (.d (.bool true)),[])):
 Calls X.P f args W λe A0=>∃v,e=.returned v/\s.post enc X.P fn apart fresh handsOn false W args v A0:=by
 have AN:=AM;obtain⟨p,q,AG,AH,rfl,Ad,Ae⟩:=AM;rw[AL]at AH;obtain⟨rfl,rfl⟩:gs=[]/\q=[]:=by
  cases gs with
  |nil=>exact⟨rfl,AH⟩
  |cons g r=>exact absurd AH (by intro h;cases h)
 simp only[W7,WJ,WV]at AF;obtain⟨xs,O,A',T,U⟩:=Aq (n:=n) (b0:=base) AG (λt I=>(AF t I).2) (λj t v I J=>Aa j t v (by simpa using I) (by simpa using J));have Ac:=trodAll_length AG;refine (Ft AE (Ab xs (by simpa using A') (λi t x I E=>T i t x (by simpa using I) E)) (by simpa using O) (λi x v E J=>U i x v E (by simpa using J)) Z).mono ?_;rintro e A0 ⟨rfl,M⟩;have AA:∀x∈p,x.block<W.heap.size:=λx E=>by simpa using AN.lt x (by simpa using E)
 have A9:s.fn H (A++[])={results:=[.lit (.bool true)],args:=A}:=by
  rw[XF];exact A_ A (by simpa using Ac.2)
 refine⟨_,rfl,A,[],p++[],[],p,[],AN,?_,?_,?_,M.frame _,λh=>by cases h⟩
 .rw[A9,AY];exact trodAll_mk1 (shut_bool AZ true)
 .rw[A9];exact qP AX M AG (λt I=>(AF t I).1) AA
 .rw[A9,AL];rfl
end
end Go.Am
end
section
namespace Go.Am
open Go
set_option maxRecDepth 20000
set_option maxHeartbeats 4000000
def uy{P:Program}{w:World}{n:String}{d:DataW Unit}:∀{l:List (String×DataW Unit)}{ps:List MemPlace},DataW.LaidVars P w l ps->(n,d)∈l->
 ∃g t cs fuel p,P.globalNamed n=some g/\(P.globals[g]?).map (·.type)=some t/\w.var? P n=some cs/\DataW.trod (λ_=>()) P w 0 (λ_=>true) false fuel t cs.toList=some (d,p)
 |[],_,_,hm=>by simp at hm
 |(AC,AD)::r,ps,⟨g,t,cs,fuel,p,q,T,J,A,M,O,_⟩,hm=>by
  rcases WK.1 hm with hm|hm
  .cases hm;exact⟨g,t,cs,fuel,p,T,J,A,M⟩
  .exact uy O hm
def Fu{H:Type}{enc:TypeId×Value->H}{P:Program}{w:World}{base:Nat}{sp:Nat->Bool}{held:Bool}{fuel:Nat}{t e:TypeId}{n:Nat}{k:IntKind}{cs:List Value}{V:List (DataW H)}{p:List MemPlace}
 (Y:P.underlying t=some (.array n e)) (he:P.underlying e=some (.int k)) (Z:P.cellsOf e=1) (h:DataW.trod enc P w base sp held fuel t cs=some (.agg V,p)):
 cs.length=P.cellsOf t/\V.length=n/\∀i,i<n->∃z,cs[i]?=some (.int k z)/\V[i]?=some (.lit (.int k z)):=by
 cases fuel with
 |zero=>simp[DataW.trod]at h
 |succ m=>
  unfold DataW.trod at h;rw[Y]at h;simp only at h;split at h
  .rename_i a;simp only[WH,W0,DataW.agg.injEq]at h;obtain⟨xs,A0,rfl,_⟩:=h;have T:xs.length=n:=by simpa using mapM_some_length A0
   refine⟨a,by simpa using T,λi hi=>?_⟩;have J:=mapM_some_get A0 i i (by simp[hi]);have A:i<xs.length:=by omega
   have M:xs[i]?=some xs[i]:=by simp[A]
   rw[M,Z]at J;obtain⟨z,O,y,_⟩:=DataW.trod_int he J;refine⟨z,?_,by simp[M,y]⟩;have U:=Xi (·[0]?) O;simpa [WM,W6]using U
  .cases h
def sr{P:Program}{W:World}{l:List (String×DataW Unit)}{name:String}{g:Nat}{t e:TypeId}{n:Nat}{k:IntKind}{zs:List Int}
 (a:laidMet P l W) (hm:(name,DataW.agg (zs.map λz=>.lit (.int k z)))∈l) (A':P.globalNamed name=some g) (A7:(P.globals[g]?).map (·.type)=some t)
 (Y:P.underlying t=some (.array n e)) (he:P.underlying e=some (.int k)) (Z:P.cellsOf e=1) (AE:0<n) (A8:P.cellsOf t=n):
 (g<W.heap.size/\∀cs,D.agg (zs.map λz=>.int k z)=.agg cs->∃cur e A1,W.heap[g]?=some (.cells cur e A1)/\cur.size=cs.length)/\∃A2,ar W (λ_=>False) (.agg (zs.map λz=>.int k z)) A2/\∀(i:Nat)(c:Value),A2.cells[i]?=some c->W.cell? ⟨g,i,none⟩=some c:=by
 obtain⟨ps,I,_⟩:=a;obtain⟨AF,AG,cs,fuel,p,T,J,A,M⟩:=uy I hm;obtain rfl:=XT (A'.symm.trans T);obtain rfl:=XT (A7.symm.trans J);obtain⟨A3,O,y⟩:=Fu Y he Z M;rw[A8]at A3;simp at O;have U:∀i z,zs[i]?=some z->W.cell? ⟨g,i,none⟩=some (.int k z):=by
  intro i z E;have hi:i<n:=by
   have:=(D1.1 E).1;omega
  obtain⟨A9,AA,A4⟩:=y i hi;simp[E]at A4;subst A4;rw[World.var?_cell A' A i];simpa using AA
 refine⟨⟨?_,?_⟩,.agg (zs.map λz=>Value.int k z).toArray,?_,?_⟩
 .have E:∃z,zs[0]?=some z:=⟨zs[0]'(by omega),by simp[show 0<zs.length by omega]⟩
  obtain⟨z,E⟩:=E;exact (qx (U 0 z E)).1
 .rintro AH AB;obtain rfl:=D.agg.inj AB;unfold World.var? at A;rw[A']at A;simp only[Xz]at A;split at A
  .rename_i cur e' A1 hh;cases A;exact⟨_,_,_,hh,by simp at O A3⊢;omega⟩
  .cases A
 .refine ar.jM (by simp) (λv I=>?_) (λi c v A5 I=>?_)
  .simp at I;obtain⟨z,_,rfl⟩:=I;rfl
  .simp only[WZ,WH]at A5 I;obtain⟨z,E,rfl⟩:=A5;obtain⟨A9,A6,rfl⟩:=I;rw[E]at A6;cases A6;exact .int k z
 .intro i c hi;simp[Value.cells]at hi;obtain⟨z,E,rfl⟩:=hi;exact U i z E
end Go.Am
end
section
namespace Go.Am
open Go
variable {H:Type} {enc:TypeId×Value->H}
theorem Fv{a:Assume}{C:Checked}{os:Os}{f:FuncId}{fn:Func}{s:ChangeSpec}{D:List PathCond}{apart fresh handsOn again:Bool}{X:World->Array Value->Prop}
 (I:∀(w w':World)(args:Array Value),w.heap=w'.heap->X w args->X w' args)
 (own:ownKnob C.prog.godebug=none) (started:os.Started) (J:C.prog.inits.idxOf? f=none) (M:C.prog.funcs[f]?=some fn)
 (witness:∃(w:World)(tape:Tape)(i:Input),w.os=os/\(w.forCall tape i).Shaped C.prog/\i.vars=[]/\Input.okWide C.prog (w.forCall tape i) .any w.heap.size f i/\
  ((s.pre enc C.prog fn D apart (w.forCall tape i).memory i.args/\X (w.forCall tape i).memory i.args)/\sizedMet enc C.prog fn (OpenSpec.ofChange s) apart (w.forCall tape i).memory i.args)/\a.holds C.prog (lone (Frame.enter C.prog f i.args .normal) [] (w.forCall tape i)))
 (O:∀(W:World)(base:Nat)(args:Array Value)(A gs:List (DataW H))(before:List MemPlace),
  (∀(j:Nat) t v,fn.params[j]?=some t->args[j]?=some v->Value.okWide C.prog W .any base t v)->
  DataW.Whole enc C.prog fn.params.toList s.vars apart W args.toList A gs before->X W args->W.ShapedOpen C.prog->
  Calls C.prog f args W λe E=>∃v,e=.returned v/\s.post enc C.prog fn apart fresh handsOn again W args v E):
 ReturnsInHanded a C os f .any (λw args=>(s.pre enc C.prog fn D apart w args/\X w args)/\sizedMet enc C.prog fn (OpenSpec.ofChange s) apart w args) (s.post enc C.prog fn apart fresh handsOn again):=by
 refine returnsInHanded_of_calls own started J witness ?_;intro w tape i _ T _ U V _;obtain⟨_,_,_,Y,Z,_,_,_,_,c⟩:=U;have e:Y=fn:=XT (Z.symm.trans M);subst e;obtain⟨⟨⟨A,gs,before,hw,A0⟩,q⟩,A1⟩:=V;have y:=DataW.Whole.of_heap (w':=w.forCall tape i) (by rfl) hw;refine (O (w.forCall tape i) w.heap.size i.args A gs before c y (I _ _ _ (by rfl) q) T).mono λe E ⟨v,he,A'⟩=>?_;subst he;exact ChangeSpec.post_blind A'
end Go.Am
end
section
namespace Go.Am
open Go Go.ChangeShapes Go.WideShapes Go.RowKit
def tJ{P:Program}{W:World}{l:List (String×DataW Unit)}{name:String}{g:Nat}{t:TypeId}{d:DataW Unit}{ms:Array (String×TypeId)}
 (E:laidMet P l W) (hm:(name,d)∈l) (D:P.globalNamed name=some g) (H:(P.globals[g]?).map (·.type)=some t) (hu:P.underlying t=some (.interface ms)):
 ∃v,W.cell? ⟨g,0,none⟩=some v/\(v=.nilIface\/∃u p,v=.iface u p):=by
 obtain⟨ps,I,_⟩:=E;obtain⟨V,Y,cs,fuel,p,J,M,O,A⟩:=uy I hm;obtain rfl:=XT (D.symm.trans J);obtain rfl:=XT (H.symm.trans M);have key:∃v,cs.toList=[v]/\(v=.nilIface\/∃u p,v=.iface u p):=by
  cases fuel with
  |zero=>simp[DataW.trod]at A
  |succ m=>
   unfold DataW.trod at A;rw[hu]at A;split at A<;>first|(rename_i Z;exact⟨_,by assumption,.inl rfl⟩)|(exact⟨_,by assumption,.inr ⟨_,_,rfl⟩⟩)|(simp_all;done)
 obtain⟨v,T,U⟩:=key;refine⟨v,?_,U⟩;rw[World.var?_cell D O 0];have:=Xi (·[0]?) T;simpa using this
end Go.Am
end
