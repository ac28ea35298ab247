/-
  The tied card of AsmShows is proved: the law returns true for every input and leaves its argument as it was. Conditions: those of the row itself (the listed package variables start as the program lays them).
-/
import Derived.Test.YtjhbmdndjhgjlaaGreatDoorA1
import Derived.Test.YtjhbmdndjhgjlaaGreatDoorA2
import Derived.Test.YtjhbmdndjhgjlaaGreatDoorA3
import Derived.Test.YtjhbmdndjhgjlaaGreatDoorA4
import Derived.Test.YtjhbmdndjhgjlaaGreatDoorA5
import Derived.Test.YtjhbmdndjhgjlaaGreatDoorA6
import Derived.Test.YtjhbmdndjhgjlaaGreatDoorA7
import Derived.Test.YtjhbmdndjhgjlaaGreatDoorRows
import Derived.Test.YtjhbmdndjhgjlaaGreatDoorCards
import Derived.Test.YtjhbmdndjhgjlaaGreatDoorTie
import Derived.JoinedOf
import Derived.LaidMore
import Derived.LaidHandle
import Derived.SevenTiedAt
import Derived.Lay
set_option linter.all false
namespace Go.Proofs.YtjhbmdndjhgjlaaGreatDoor
open Go Go.Am Go.Proofs.Tryz
set_option maxRecDepth 100000
def Tryz.own:ownKnob Tryz.prog.godebug=none:=by kernel_rfl
def Tryz.laidOut:laidOutB Tryz.prog=true:=by kernel_rfl
def Mw[Inhabited dx]:fI ctx:=fI.of (by kernel_rfl) Js
def Hn(os:Os)(args:Array Value):laidMetH Tryz.prog Rows.asmShowsRow.laid ((World.laidAll Tryz.prog os Rows.asmShowsRow.laid).forCall (λ_ _=>0) ⟨#[],args,[]⟩).memory:=by
 rw[MakeChecks.laidMetH_plain _ _ _ (by kernel_rfl)];exact laidMet_laidAll _ (by kernel_rfl) (by kernel_rfl)
def jZ{z:Int}(h:(Lit.int .i64 z).wf=true):dw z:=by
 simp only[Lit.wf,WJ,WV]at h;have A:IntKind.min .i64= -9223372036854775808:=by rfl
 have E:IntKind.max .i64=9223372036854775807:=by rfl
 unfold dw;omega
def v8{α:Type}{f:α->D}{p:α->Prop}:∀{xs:List D},(∀x∈xs,∃r,x=f r/\p r)->∃rs:List α,xs=rs.map f/\∀r∈rs,p r
 |[],_=>⟨[],rfl,by simp⟩
 |x::xs,h=>by
  obtain⟨r,rfl,A1⟩:=h x (by simp);obtain⟨rs,rfl,A2⟩:=v8 (xs:=xs) (λy A3=>h y (by simp[A3]));exact⟨r::rs,rfl,by simpa using ⟨A1,A2⟩⟩
def DB{n:Nat}{x:D}(I:typed Tryz.prog (n+2) 70 x):∃i:Ins,x=cA i/\mF i:=by
 obtain⟨T,rfl,A4,d0,U,⟨A5,d1,A,⟨A6,d2,E,⟨AP,d3,A7,⟨AQ,d4,A9,rfl,rfl⟩,rfl⟩,rfl⟩,rfl⟩,rfl⟩:=sq Tryz.underlying70 I;obtain⟨o,rfl,_⟩:=iC Tryz.underlying3 U;obtain⟨a,rfl,AA⟩:=iC Tryz.underlying3 A;obtain⟨b,rfl,AB⟩:=iC Tryz.underlying3 E;obtain⟨n,rfl,AC⟩:=iC Tryz.underlying2 A7;obtain⟨m,rfl,hm⟩:=iC Tryz.underlying2 A9;exact⟨⟨o,a,b,n,m⟩,rfl,jZ AA,jZ AB,jZ AC,jZ hm⟩
def Bc{x:D}(I:typed Tryz.prog 5 35 x):∃ins vars cells,x=mH ins vars cells/\(∀i∈ins,mF i)/\dw vars/\dw cells:=by
 obtain⟨T,rfl,A4,d0,U,⟨A5,d1,A,⟨A6,d2,E,rfl,rfl⟩,rfl⟩,rfl⟩:=sq Tryz.underlying35 I;obtain⟨xs,rfl,_,V⟩:=A8 Tryz.underlying33 U;obtain⟨v,rfl,M⟩:=iC Tryz.underlying3 A;obtain⟨c,rfl,Y⟩:=iC Tryz.underlying3 E;obtain⟨ins,rfl,hi⟩:=v8 (f:=cA) (p:=mF) (λx I=>DB (V x I));exact⟨ins,v,c,rfl,hi,jZ M,jZ Y⟩
def Ho:("internal/strconv.uint64pow10",DataW.agg (kA.map λz=>.lit (.int .u64 z)))∈(Rows.asmShowsRow.laid:List (String×DataW Unit)):=by
 have h:(Rows.asmShowsRow.laid:List (String×DataW Unit))[2]?=some ("internal/strconv.uint64pow10",DataW.agg (kA.map λz=>.lit (.int .u64 z))):=by kernel_rfl
 exact WI h
def FM:("strings.asciiSpace",DataW.agg (wN.map λz=>.lit (.int .u8 z)))∈(Rows.asmShowsRow.laid:List (String×DataW Unit)):=by
 have h:(Rows.asmShowsRow.laid:List (String×DataW Unit))[7]?=some ("strings.asciiSpace",DataW.agg (wN.map λz=>.lit (.int .u8 z))):=by kernel_rfl
 exact WI h
def N0{W:World}(h:W.ShapedOpen Tryz.prog):∃m,W.cell? ⟨3,0,none⟩=some (.int .i64 m):=
 cell_of_shapedOpen_int (t:=3) (zero:=#[.int .i64 0]) h (Xk (by kernel_rfl)) (by kernel_rfl) rfl (by kernel_rfl) (by kernel_rfl) (by kernel_rfl)
def Mx:∃d,("strconv.ErrSyntax",d)∈(Rows.asmShowsRow.laid:List (String×DataW Unit)):=by
 have h:((Rows.asmShowsRow.laid:List (String×DataW Unit))[5]?).map (·.1)=some "strconv.ErrSyntax" :=by kernel_rfl
 obtain⟨⟨n,d⟩,A,E⟩:=WH.1 h;simp only at E;subst E;exact⟨d,WI A⟩
def My:∃d,("strconv.ErrRange",d)∈(Rows.asmShowsRow.laid:List (String×DataW Unit)):=by
 have h:((Rows.asmShowsRow.laid:List (String×DataW Unit))[4]?).map (·.1)=some "strconv.ErrRange" :=by kernel_rfl
 obtain⟨⟨n,d⟩,A,E⟩:=WH.1 h;simp only at E;subst E;exact⟨d,WI A⟩
def AD{W:World}{g:Nat}(h:∃v,W.cell? ⟨g,0,none⟩=some v/\(v=.nilIface\/∃u p,v=.iface u p)):(g<W.heap.size/\∀cs,D.jb=.agg cs->∃cur e AE,W.heap[g]?=some (.cells cur e AE)/\cur.size=cs.length)/\¬False/\∃q,ar W (λ_=>False) D.jb q/\∀(i:Nat)(c:Value),q.cells[i]?=some c->W.cell? ⟨g,i,none⟩=some c:=by
 obtain⟨v,M,A'⟩:=h;refine⟨⟨(qx M).1,λ_ h=>by cases h⟩,id,v,.jb v A',λi c hi=>?_⟩;have A:v.cells=#[v]:=by rcases A' with rfl|⟨u,p,rfl⟩<;>rfl
 rw[A]at hi;match i,hi with
 |0,hi=>simp at hi;subst hi;exact M
 |i+1,hi=>simp at hi
def Jt{W:World}(J:laidMetH Tryz.prog Rows.asmShowsRow.laid W)(m:Int)(hm:W.cell? ⟨3,0,none⟩=some (.int .i64 m)):bY W (λ_=>False) (@ctx ⟨m⟩).gl:=by
 rw[MakeChecks.laidMetH_plain _ _ _ (by kernel_rfl)]at J;intro x I;have A0:x∈[((1:Nat),D.agg (kA.map λz=>.int .u64 z)),(0,D.agg (wN.map λz=>.int .u8 z)),(3,.int .i64 m),(8,.jb),(9,.jb)]:=I;simp only[WK,XH,or_false]at A0;rcases A0 with rfl|rfl|rfl|rfl|rfl
 .obtain⟨a,b⟩:=sr (name:= "internal/strconv.uint64pow10") (n:=20) (e:=92) (t:=200) (g:=1) (k:=.u64) (zs:=kA) J Ho (by kernel_rfl) (by kernel_rfl) (by kernel_rfl) (by kernel_rfl) (by kernel_rfl) (by decide) (by kernel_rfl);exact⟨a,id,b⟩
 .obtain⟨a,b⟩:=sr (name:= "strings.asciiSpace") (n:=256) (e:=5) (t:=182) (g:=0) (k:=.u8) (zs:=wN) J FM (by kernel_rfl) (by kernel_rfl) (by kernel_rfl) (by kernel_rfl) (by kernel_rfl) (by decide) (by kernel_rfl);exact⟨a,id,b⟩
 .refine⟨⟨(qx hm).1,λ_ h=>by cases h⟩,id,.int .i64 m,.int _ _,λi c hi=>?_⟩;match i,hi with
  |0,hi=>simp[Value.cells]at hi;subst hi;exact hm
  |i+1,hi=>simp[Value.cells]at hi
 .obtain⟨d,Z⟩:=Mx;exact AD (tJ J Z (by kernel_rfl) (by kernel_rfl) Tryz.underlying74)
 .obtain⟨d,Z⟩:=My;exact AD (tJ J Z (by kernel_rfl) (by kernel_rfl) Tryz.underlying74)
def wa(os:Os)(started:os.Started)(H:Type)(enc:TypeId×Value->H):
 ReturnsInHanded {} Tryz.checked os 4 .any (λw args=>(Rows.asmShowsSpec.pre enc Tryz.prog f4 [] false w args/\laidMetH Tryz.prog Rows.asmShowsRow.laid w)/\sizedMet enc Tryz.prog f4 (OpenSpec.ofChange Rows.asmShowsSpec) false w args)
  (Rows.asmShowsSpec.post enc Tryz.prog f4 false true false false):=by
 refine Fv (C:=Tryz.checked) (X:=λw _=>laidMetH Tryz.prog Rows.asmShowsRow.laid w) (λ_ _ _ hh h=>h.of_heap hh) Tryz.own started (by kernel_rfl) Tryz.func4
  (ChangeSpec.witness_shaped (enc:=enc) (C:=Tryz.checked) (os:=os) (X:=λw _=>laidMetH Tryz.prog Rows.asmShowsRow.laid w) false (World.laidAll Tryz.prog os Rows.asmShowsRow.laid)
   #[.agg #[.slice none 0 0,.int .i64 0,.int .i64 0]] 8 (World.laidAll_os _ _ _) (World.shaped_of_ZipB (by kernel_rfl) (by kernel_rfl)) (by kernel_rfl) (by kernel_rfl) (by kernel_rfl) (Hn os _)) ?_
 intro W base args T gs before AF AG J AH;obtain⟨m,hm⟩:=N0 AH;letI:Inhabited dx:=⟨m⟩
 refine Ar (X:=ctx) Mw (n:=5) (tb:=4) Tryz.laidOut (by kernel_rfl) (by kernel_rfl) Tryz.underlying4 rfl ?_ AF AG (Jt J m hm) ?_
 .intro T AI;match T,AI with
  |[d1],_=>rfl
 .intro xs V AJ;match xs,V with
  |[AK],_=>
   obtain⟨ci,AL,AM,rfl,hw,M,Y⟩:=Bc (AJ 0 35 AK (by kernel_rfl) rfl);exact Az ci AL AM hw M Y
def wS:Rows.AsmShowsSaid:=
 OpenClaim.holds_of_wide 4 f4 rfl rfl rfl rfl rfl rfl rfl ⟨rfl,rfl,rfl,rfl,rfl⟩ rfl rfl rfl rfl rfl (by kernel_rfl) Tryz.func4 (by kernel_rfl)
  (Xk (by kernel_rfl)) (by unfold Func.isWrapper;first|(rw[W2 (by decide+kernel)];kernel_rfl)|(rw[WO (by decide+kernel)];exact⟨rfl,rfl⟩))
  (λos started H enc _=>wa os started H enc)
theorem asmShows_card_holds:Rows.AsmShowsCardSaid:=
 Claim7.holds_tied_plain_at .later [] [.data,.data,.data,.data,.sentinel,.sentinel,.listed,.data,.pinned] true Rows.asmShowsCard.stood.harness true
  wS (λ_ h=>by cases h) (by kernel_rfl) (λ_ h=>by cases h) asmShows_row_tie rfl ⟨rfl,rfl⟩ (by kernel_rfl) rfl
  (λf fn AN AO=>by
   obtain rfl:f=4:=XT ((show Tryz.prog.funcNamed "servitor/servitorlaw34.AsmShows" =some 4 by kernel_rfl).symm.trans AN) |>.symm;obtain rfl:fn=f4:=(XT (Tryz.func4.symm.trans AO)).symm;exact⟨by kernel_rfl,λj t O=>by
    rw[Tryz.params4]at O;match j,O with
    |0,O=>(obtain rfl:t=35:=by simpa using O.symm);exact (show Tryz.prog.wantsStandIn 35=false by kernel_rfl)
    |j+1,O=>simp at O⟩)
  (by kernel_rfl)
#print axioms asmShows_card_holds
end Go.Proofs.YtjhbmdndjhgjlaaGreatDoor
