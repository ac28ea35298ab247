/-
  The tied card of CodeRight in its second form is proved: where the program that is given holds at most 1048576 values and letters, the law returns true and leaves its arguments as they were. Conditions: those of the row itself (the listed package variables start as the program lays them; the bound).
-/
import Derived.Test.YtogaccfhfhdfpaaGreatDoorC1
import Derived.Test.YtogaccfhfhdfpaaGreatDoorC2
import Derived.Test.YtogaccfhfhdfpaaGreatDoorC3
import Derived.Test.YtogaccfhfhdfpaaGreatDoorC4
import Derived.Test.YtogaccfhfhdfpaaGreatDoorC5
import Derived.Test.YtogaccfhfhdfpaaGreatDoorC6
import Derived.Test.YtogaccfhfhdfpaaGreatDoorC7
import Derived.Test.YtogaccfhfhdfpaaGreatDoorC8
import Derived.Test.YtogaccfhfhdfpaaGreatDoorC9
import Derived.Test.YtogaccfhfhdfpaaGreatDoorC10
import Derived.Test.YtogaccfhfhdfpaaGreatDoorC11
import Derived.Test.YtogaccfhfhdfpaaGreatDoorC12
import Derived.Test.YtogaccfhfhdfpaaGreatDoorC13
import Derived.Test.YtogaccfhfhdfpaaGreatDoorC14
import Derived.Test.YtogaccfhfhdfpaaGreatDoorRows
import Derived.Test.YtogaccfhfhdfpaaGreatDoorCards
import Derived.Test.YtogaccfhfhdfpaaGreatDoorTie
import Derived.JoinedOf
import Derived.LaidMore
import Derived.LaidHandle
import Derived.SevenTiedAt
set_option linter.all false
namespace Go.Proofs.YtogaccfhfhdfpaaGreatDoor
open Go Go.Am Go.Proofs.Tryz
set_option maxRecDepth 100000
def Tryz.own:ownKnob Tryz.prog.godebug=none:=by kernel_rfl
def Tryz.laidOut:laidOutB Tryz.prog=true:=by kernel_rfl
def ajE[Inhabited bP]:lA ctx:=lA.of (by kernel_rfl) adO
def aac(os:Os)(args:Array Value):laidMetH Tryz.prog Rows.codeRightUptoRow.laid ((World.doorLaid Tryz.prog 33 os).forCall (λ_ _=>0) ⟨#[],args,[]⟩).memory:=
 laidMetH_of_parts3 (fuel:=8) (laidMet_of_run' 8 (by kernel_rfl) (by kernel_rfl)) (by kernel_rfl) (by kernel_rfl)
mutual
def adP{H:Type}:∀d:DataW H,jC d<=Rows.uptoBulk d
 | .lit l=>by cases l<;>simp[jC,Rows.uptoBulk]
 | .nil=>by simp[jC,Rows.uptoBulk]
 | .ptr d=>by simp[jC,Rows.uptoBulk]
 | .slice e s=>by
  have h:=B0 e;simp only[jC,Rows.uptoBulk];omega
 | .agg p=>by
  have h:=B0 p;simp only[jC,Rows.uptoBulk];omega
 | .iface t d=>by simp[jC,Rows.uptoBulk]
 | .map es=>by simp[jC,Rows.uptoBulk]
 | .held h=>by simp[jC,Rows.uptoBulk]
def B0{H:Type}:∀l:List (DataW H),iE l<=Rows.uptoBulkAll l
 |[]=>aak _
 |d::r=>by
  have A7:=adP d;have A8:=B0 r;simp only[iE,Rows.uptoBulkAll];omega
end
def Ji{H:Type}:∀a b:List (DataW H),iE a<=iE (a++b)
 |[],b=>amO _
 |x::a,b=>by
  have:=Ji a b;simp only[aeR,iE];omega
def UO{H:Type}{l:List (DataW H)}(O:Rows.uptoSmall H l=true):iE l<=1048576:=by
 have h:Rows.uptoBulkAll l<=1048576:=aa6 O;have:=B0 l;omega
def aad:("strings.asciiSpace",DataW.agg (JO.map λz=>.lit (.int .u8 z)))∈(Rows.codeRightUptoRow.laid:List (String×DataW Unit)):=by
 have h:(Rows.codeRightUptoRow.laid:List (String×DataW Unit))=[("unicode.White_Space",Rows.laid_unicode_White_Space),("strings.asciiSpace",DataW.agg (JO.map λz=>.lit (.int .u8 z)))]:=by kernel_rfl
 rw[h];exact abq _ (List.mem_singleton.2 rfl)
def amC{W:World}(h:W.ShapedOpen Tryz.prog):∃m,W.cell? ⟨2,0,none⟩=some (.int .i64 m):=
 cell_of_shapedOpen_int (t:=3) (zero:=#[.int .i64 0]) h (aa6 (by kernel_rfl)) (by kernel_rfl) rfl (by kernel_rfl) (by kernel_rfl) (by kernel_rfl)
def adQ{W:World}(J:laidMetH Tryz.prog Rows.codeRightUptoRow.laid W)(m:Int)(hm:W.cell? ⟨2,0,none⟩=some (.int .i64 m)):fG W (λ_=>False) (@ctx ⟨m⟩).gl:=by
 rw[MakeChecks.laidMetH_plain _ _ _ (by kernel_rfl)]at J;intro x M;have N:x∈[((0:Nat),D.agg (JO.map λz=>.int .u8 z)),(2,.int .i64 m)]:=M;simp only[aam,aaH,ajl]at N;rcases N with rfl|rfl
 .obtain⟨a,b⟩:=OH (name:= "strings.asciiSpace") (n:=256) (e:=5) (t:=266) (g:=0) (k:=.u8) (zs:=JO) J aad (by kernel_rfl) (by kernel_rfl) (by kernel_rfl) (by kernel_rfl) (by kernel_rfl) (by decide) (by kernel_rfl);exact⟨a,id,b⟩
 .refine⟨⟨(Gx hm).1,λ_ h=>by cases h⟩,id,.int .i64 m,.int _ _,λi c hi=>?_⟩;match i,hi with
  |0,hi=>simp[Value.cells]at hi;subst hi;exact hm
  |i+1,hi=>simp[Value.cells]at hi
def G6(os:Os)(started:os.Started)(H:Type)(enc:TypeId×Value->H)(F:Stop.Interp):
 ReturnsInHanded {} Tryz.checked os 4 .any (λw args=>((Rows.OpenSpec.upto Rows.codeRightSpec).pre enc Tryz.prog f4 [] false w args/\laidMetH Tryz.prog Rows.codeRightUptoRow.laid w)/\sizedMet enc Tryz.prog f4 (Rows.OpenSpec.upto Rows.codeRightSpec) false w args)
  (((Rows.OpenSpec.upto Rows.codeRightSpec).at F).post enc Tryz.prog f4 false true false false):=by
 refine Uj (C:=Tryz.checked) (s:=Rows.OpenSpec.upto Rows.codeRightSpec) (k:=Rows.uptoSmall) rfl (X:=λw _=>laidMetH Tryz.prog Rows.codeRightUptoRow.laid w) (λ_ _ _ hh h=>h.of_heap hh) Tryz.own started (by kernel_rfl) Tryz.func4
  (IJ (enc:=enc) (C:=Tryz.checked) (os:=os) (s:=Rows.OpenSpec.upto Rows.codeRightSpec) (k:=Rows.uptoSmall) rfl (X:=λw _=>laidMetH Tryz.prog Rows.codeRightUptoRow.laid w) false (World.doorLaid Tryz.prog 33 os)
   #[.agg #[.string .empty,.slice none 0 0,.slice none 0 0]] 8 rfl (World.shaped_of_RefB (by kernel_rfl) (by kernel_rfl)) (by kernel_rfl) (by kernel_rfl) (by kernel_rfl) (aac os _)) ?_
 intro W base args I gs before U V Z J y;obtain⟨m,hm⟩:=amC y;letI:Inhabited bP:=⟨m⟩
 have A9:=UO Z;refine LM (X:=ctx) ajE (s:=Rows.codeRightSpec) (L:=[25,9,22,23,59,3,4,2,118,114,112,115,26,109,116]) (tb:=4) (by kernel_rfl) Tryz.laidOut (by kernel_rfl) (by kernel_rfl) Tryz.underlying4 rfl ?_ U V (adQ J m hm) ?_
 .intro I A';match I,A' with
  |[d1],_=>rfl
 .intro xs A0 A1 AA;have A2:b8 xs<=1048576:=by
   have:iE I<=iE (I++gs):=Ji I gs;omega
  match xs,A0 with
  |[A3],_=>
   obtain⟨n,M⟩:=A1 0 25 A3 (by kernel_rfl) rfl;obtain⟨p,rfl,A4⟩:=ZV M;exact LN A4 (by simp only[gO,b8]at A2⊢;omega) aiN
set_option maxHeartbeats 40000000 in
def G7:joinedFacts Tryz.pinned.checked.prog 4 f4 (Rows.OpenSpec.upto Rows.codeRightSpec).bare Rows.codeRightUptoRow=true:=by
 unfold joinedFacts;simp only[Ds];repeat' apply And.intro
 all_goals (as_aux_lemma=>kernel_rfl)
def Jj:Rows.CodeRightUptoSaid:=
 OpenClaim.holds_of_cond 4 f4 rfl rfl rfl rfl rfl rfl rfl ⟨rfl,rfl,rfl,rfl,rfl⟩ rfl rfl rfl rfl rfl (by as_aux_lemma=>kernel_rfl) Tryz.func4 G7
  (aa6 (by as_aux_lemma=>kernel_rfl)) (by unfold Func.isWrapper;first|(rw[aav (by decide+kernel)];kernel_rfl)|(rw[aaf (by decide+kernel)];exact⟨rfl,rfl⟩))
  (λos started H enc _ F=>G6 os started H enc F)
theorem codeRight_card_holds:Rows.CodeRightUptoCardSaid:=
 Claim7.holds_tied_plain_at .later [] _ _ _ _
  Jj (λ_ h=>by cases h) (by as_aux_lemma=>kernel_rfl) (λ_ h=>by cases h) codeRightUpto_row_tie rfl ⟨rfl,rfl⟩ (by as_aux_lemma=>kernel_rfl) rfl
  (λf fn A5 A6=>by
   obtain rfl:f=4:=Option.some.inj ((show Tryz.prog.funcNamed "servitor/servitorlaw24.CodeRight" =some 4 by kernel_rfl).symm.trans A5) |>.symm;obtain rfl:fn=f4:=(Option.some.inj (Tryz.func4.symm.trans A6)).symm;exact⟨by as_aux_lemma=>kernel_rfl,λj t E=>by
    rw[Tryz.params4]at E;match j,E with
    |0,E=>(obtain rfl:t=25:=by simpa using E.symm);exact (show Tryz.prog.wantsStandIn 25=false by kernel_rfl)
    |j+1,E=>simp at E⟩)
  (by as_aux_lemma=>kernel_rfl)
#print axioms codeRight_card_holds
end Go.Proofs.YtogaccfhfhdfpaaGreatDoor
