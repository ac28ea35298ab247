/-
  The tied card of AsmBack is proved: the law returns true for every input and leaves its arguments as they were. Conditions: those of the row itself (the listed package variables start as the program lays them).
-/
import Derived.Test.YtjhbmdndjhgjlaaDoorB1
import Derived.Test.YtjhbmdndjhgjlaaDoorB2
import Derived.Test.YtjhbmdndjhgjlaaDoorB3
import Derived.Test.YtjhbmdndjhgjlaaDoorB4
import Derived.Test.YtjhbmdndjhgjlaaDoorB5
import Derived.Test.YtjhbmdndjhgjlaaDoorB6
import Derived.Test.YtjhbmdndjhgjlaaDoorB7
import Derived.Test.YtjhbmdndjhgjlaaDoorB8
import Derived.Test.YtjhbmdndjhgjlaaDoorRows
import Derived.Test.YtjhbmdndjhgjlaaDoorCards
import Derived.Test.YtjhbmdndjhgjlaaDoorTie
import Derived.JoinedOf
import Derived.LaidMore
import Derived.LaidHandle
import Derived.SevenTiedAt
import Derived.Lay
set_option linter.all false
namespace Go.Proofs.YtjhbmdndjhgjlaaDoor
open Go Go.Am Go.Proofs.Tryd
set_option maxRecDepth 100000
def Tryd.own:ownKnob Tryd.prog.godebug=none:=by kernel_rfl
def Tryd.laidOut:laidOutB Tryd.prog=true:=by kernel_rfl
def NB[Inhabited dI]:fJ ctx:=fJ.of (by kernel_rfl) Kv
def IC(os:Os)(args:Array Value):laidMetH Tryd.prog Rows.asmBackRow.laid ((World.laidAll Tryd.prog os Rows.asmBackRow.laid).forCall (λ_ _=>0) ⟨#[],args,[]⟩).memory:=by
 rw[MakeChecks.laidMetH_plain _ _ _ (by kernel_rfl)];exact laidMet_laidAll _ (by kernel_rfl) (by kernel_rfl)
def jX{z:Int}(h:(Lit.int .i64 z).wf=true):bQ z:=by
 simp only[Lit.wf,Xl,XK]at h;have A:IntKind.min .i64= -9223372036854775808:=by rfl
 have E:IntKind.max .i64=9223372036854775807:=by rfl
 unfold bQ;omega
def xo{α:Type}{f:α->D}{p:α->Prop}:∀{xs:List D},(∀x∈xs,∃r,x=f r/\p r)->∃rs:List α,xs=rs.map f/\∀r∈rs,p r
 |[],_=>⟨[],rfl,by simp⟩
 |x::xs,h=>by
  obtain⟨r,rfl,A1⟩:=h x (by simp);obtain⟨rs,rfl,A2⟩:=xo (xs:=xs) (λy A3=>h y (by simp[A3]));exact⟨r::rs,rfl,by simpa using ⟨A1,A2⟩⟩
def EC{n:Nat}{x:D}(J:typed Tryd.prog (n+2) 34 x):∃i:Ins,x=cU i/\eL i:=by
 obtain⟨O,rfl,A4,d0,T,⟨A5,d1,A,⟨A6,d2,E,⟨AN,d3,A7,⟨AO,d4,A8,rfl,rfl⟩,rfl⟩,rfl⟩,rfl⟩,rfl⟩:=s9 Tryd.underlying34 J;obtain⟨o,rfl,_⟩:=iI Tryd.underlying3 T;obtain⟨a,rfl,A9⟩:=iI Tryd.underlying3 A;obtain⟨b,rfl,AA⟩:=iI Tryd.underlying3 E;obtain⟨n,rfl,AB⟩:=iI Tryd.underlying2 A7;obtain⟨m,rfl,hm⟩:=iI Tryd.underlying2 A8;exact⟨⟨o,a,b,n,m⟩,rfl,jX A9,jX AA,jX AB,jX hm⟩
def Cg{x:D}(J:typed Tryd.prog 5 24 x):∃ins vars cells,x=kF ins vars cells/\(∀i∈ins,eL i)/\bQ vars/\bQ cells:=by
 obtain⟨O,rfl,A4,d0,T,⟨A5,d1,A,⟨A6,d2,E,rfl,rfl⟩,rfl⟩,rfl⟩:=s9 Tryd.underlying24 J;obtain⟨xs,rfl,_,U⟩:=Cd Tryd.underlying22 T;obtain⟨v,rfl,N⟩:=iI Tryd.underlying3 A;obtain⟨c,rfl,V⟩:=iI Tryd.underlying3 E;obtain⟨ins,rfl,hi⟩:=xo (f:=cU) (p:=eL) (λx J=>EC (U x J));exact⟨ins,v,c,rfl,hi,jX N,jX V⟩
def ID:("internal/strconv.uint64pow10",DataW.agg (kB.map λz=>.lit (.int .u64 z)))∈(Rows.asmBackRow.laid:List (String×DataW Unit)):=by
 have h:(Rows.asmBackRow.laid:List (String×DataW Unit))[2]?=some ("internal/strconv.uint64pow10",DataW.agg (kB.map λz=>.lit (.int .u64 z))):=by kernel_rfl
 exact Xk h
def G5:("strings.asciiSpace",DataW.agg (xT.map λz=>.lit (.int .u8 z)))∈(Rows.asmBackRow.laid:List (String×DataW Unit)):=by
 have h:(Rows.asmBackRow.laid:List (String×DataW Unit))[7]?=some ("strings.asciiSpace",DataW.agg (xT.map λz=>.lit (.int .u8 z))):=by kernel_rfl
 exact Xk h
def O9{W:World}(h:W.ShapedOpen Tryd.prog):∃m,W.cell? ⟨3,0,none⟩=some (.int .i64 m):=
 cell_of_shapedOpen_int (t:=3) (zero:=#[.int .i64 0]) h (XW (by kernel_rfl)) (by kernel_rfl) rfl (by kernel_rfl) (by kernel_rfl) (by kernel_rfl)
def NC:∃d,("strconv.ErrSyntax",d)∈(Rows.asmBackRow.laid:List (String×DataW Unit)):=by
 have h:((Rows.asmBackRow.laid:List (String×DataW Unit))[5]?).map (·.1)=some "strconv.ErrSyntax" :=by kernel_rfl
 obtain⟨⟨n,d⟩,A,E⟩:=Xj.1 h;simp only at E;subst E;exact⟨d,Xk A⟩
def ND:∃d,("strconv.ErrRange",d)∈(Rows.asmBackRow.laid:List (String×DataW Unit)):=by
 have h:((Rows.asmBackRow.laid:List (String×DataW Unit))[4]?).map (·.1)=some "strconv.ErrRange" :=by kernel_rfl
 obtain⟨⟨n,d⟩,A,E⟩:=Xj.1 h;simp only at E;subst E;exact⟨d,Xk A⟩
def BL{W:World}{g:Nat}(h:∃v,W.cell? ⟨g,0,none⟩=some v/\(v=.nilIface\/∃u p,v=.iface u p)):(g<W.heap.size/\∀cs,D.jd=.agg cs->∃cur e AC,W.heap[g]?=some (.cells cur e AC)/\cur.size=cs.length)/\¬False/\∃Z,aq W (λ_=>False) D.jd Z/\∀(i:Nat)(c:Value),Z.cells[i]?=some c->W.cell? ⟨g,i,none⟩=some c:=by
 obtain⟨v,N,q⟩:=h;refine⟨⟨(qW N).1,λ_ h=>by cases h⟩,id,v,.jd v q,λi c hi=>?_⟩;have A:v.cells=#[v]:=by rcases q with rfl|⟨u,p,rfl⟩<;>rfl
 rw[A]at hi;match i,hi with
 |0,hi=>simp at hi;subst hi;exact N
 |i+1,hi=>simp at hi
def Kw{W:World}(M:laidMetH Tryd.prog Rows.asmBackRow.laid W)(m:Int)(hm:W.cell? ⟨3,0,none⟩=some (.int .i64 m)):b5 W (λ_=>False) (@ctx ⟨m⟩).gl:=by
 rw[MakeChecks.laidMetH_plain _ _ _ (by kernel_rfl)]at M;intro x J;have A':x∈[((1:Nat),D.agg (kB.map λz=>.int .u64 z)),(0,D.agg (xT.map λz=>.int .u8 z)),(3,.int .i64 m),(8,.jd),(9,.jd)]:=J;simp only[Xm,Yg,or_false]at A';rcases A' with rfl|rfl|rfl|rfl|rfl
 .obtain⟨a,b⟩:=ta (name:= "internal/strconv.uint64pow10") (n:=20) (e:=99) (t:=119) (g:=1) (k:=.u64) (zs:=kB) M ID (by kernel_rfl) (by kernel_rfl) (by kernel_rfl) (by kernel_rfl) (by kernel_rfl) (by decide) (by kernel_rfl);exact⟨a,id,b⟩
 .obtain⟨a,b⟩:=ta (name:= "strings.asciiSpace") (n:=256) (e:=5) (t:=104) (g:=0) (k:=.u8) (zs:=xT) M G5 (by kernel_rfl) (by kernel_rfl) (by kernel_rfl) (by kernel_rfl) (by kernel_rfl) (by decide) (by kernel_rfl);exact⟨a,id,b⟩
 .refine⟨⟨(qW hm).1,λ_ h=>by cases h⟩,id,.int .i64 m,.int _ _,λi c hi=>?_⟩;match i,hi with
  |0,hi=>simp[Value.cells]at hi;subst hi;exact hm
  |i+1,hi=>simp[Value.cells]at hi
 .obtain⟨d,Y⟩:=NC;exact BL (uH M Y (by kernel_rfl) (by kernel_rfl) Tryd.underlying41)
 .obtain⟨d,Y⟩:=ND;exact BL (uH M Y (by kernel_rfl) (by kernel_rfl) Tryd.underlying41)
def x7(os:Os)(started:os.Started)(H:Type)(enc:TypeId×Value->H):
 ReturnsInHanded {} Tryd.checked os 3 .any (λw args=>(Rows.asmBackSpec.pre enc Tryd.prog f3 [] false w args/\laidMetH Tryd.prog Rows.asmBackRow.laid w)/\sizedMet enc Tryd.prog f3 (OpenSpec.ofChange Rows.asmBackSpec) false w args)
  (Rows.asmBackSpec.post enc Tryd.prog f3 false true false false):=by
 refine Gz (C:=Tryd.checked) (X:=λw _=>laidMetH Tryd.prog Rows.asmBackRow.laid w) (λ_ _ _ hh h=>h.of_heap hh) Tryd.own started (by kernel_rfl) Tryd.func3
  (ChangeSpec.witness_shaped (enc:=enc) (C:=Tryd.checked) (os:=os) (X:=λw _=>laidMetH Tryd.prog Rows.asmBackRow.laid w) false (World.laidAll Tryd.prog os Rows.asmBackRow.laid)
   #[.agg #[.slice none 0 0,.int .i64 0,.int .i64 0],.string .empty] 8 (World.laidAll_os _ _ _) (World.shaped_of_ZipB (by kernel_rfl) (by kernel_rfl)) (by kernel_rfl) (by kernel_rfl) (by kernel_rfl) (IC os _)) ?_
 intro W base args O gs before AD AE M AF;obtain⟨m,hm⟩:=O9 AF;letI:Inhabited dI:=⟨m⟩
 refine Bw (X:=ctx) NB (n:=5) (tb:=4) Tryd.laidOut (by kernel_rfl) (by kernel_rfl) Tryd.underlying4 rfl ?_ AD AE (Kw M m hm) ?_
 .intro O AG;match O,AG with
  |[d1,d2],_=>rfl
 .intro xs U A0;match xs,U with
  |[AH,AI],_=>
   obtain⟨ci,AJ,AK,rfl,hw,N,V⟩:=Cg (A0 0 24 AH (by kernel_rfl) rfl);obtain⟨s,rfl,_⟩:=Bv Tryd.underlying9 (A0 1 9 AI (by kernel_rfl) rfl);exact Ce ci AJ AK s hw N V
def ze:Rows.AsmBackSaid:=
 OpenClaim.holds_of_wide 3 f3 rfl rfl rfl rfl rfl rfl rfl ⟨rfl,rfl,rfl,rfl,rfl⟩ rfl rfl rfl rfl rfl (by kernel_rfl) Tryd.func3 (by kernel_rfl)
  (XW (by kernel_rfl)) (by unfold Func.isWrapper;first|(rw[Xz (by decide+kernel)];kernel_rfl)|(rw[Xq (by decide+kernel)];exact⟨rfl,rfl⟩))
  (λos started H enc _=>x7 os started H enc)
theorem asmBack_card_holds:Rows.AsmBackCardSaid:=
 Claim7.holds_tied_plain_at .later [] [.data,.data,.data,.data,.sentinel,.sentinel,.listed,.data,.pinned] true Rows.asmBackCard.stood.harness true
  ze (λ_ h=>by cases h) (by kernel_rfl) (λ_ h=>by cases h) asmBack_row_tie rfl ⟨rfl,rfl⟩ (by kernel_rfl) rfl
  (λf fn AL AM=>by
   obtain rfl:f=3:=Yi ((show Tryd.prog.funcNamed "servitor/servitorlaw34.AsmBack" =some 3 by kernel_rfl).symm.trans AL) |>.symm;obtain rfl:fn=f3:=(Yi (Tryd.func3.symm.trans AM)).symm;exact⟨by kernel_rfl,λj t I=>by
    rw[Tryd.params3]at I;match j,I with
    |0,I=>(obtain rfl:t=24:=by simpa using I.symm);exact (show Tryd.prog.wantsStandIn 24=false by kernel_rfl)
    |1,I=>(obtain rfl:t=9:=by simpa using I.symm);exact (show Tryd.prog.wantsStandIn 9=false by kernel_rfl)
    |j+2,I=>simp at I⟩)
  (by kernel_rfl)
#print axioms asmBack_card_holds
end Go.Proofs.YtjhbmdndjhgjlaaDoor
