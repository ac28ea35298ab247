/-
  The tied card of CodeShapes in its second form is proved: where the program that is given holds at most 1048576 values and letters, the law returns true and leaves its argument as it was. Conditions: those of the row itself (the listed package variables start as the program lays them; the bound).
-/
import Derived.Test.YtccmboenpbjhnaaGreatDoorG7
import Derived.Test.YtccmboenpbjhnaaGreatDoorRows
import Derived.Test.YtccmboenpbjhnaaGreatDoorCards
import Derived.Test.YtccmboenpbjhnaaGreatDoorTie
import Derived.JoinedOf
import Derived.LaidMore
import Derived.LaidHandle
import Derived.SevenTiedAt
set_option linter.all false
namespace Go.Proofs.YtccmboenpbjhnaaGreatDoor
open Go Go.Am Go.Proofs.Tryz
set_option maxRecDepth 100000
theorem Tryz.own:ownKnob Tryz.prog.godebug=none:=by kernel_rfl
theorem Tryz.laidOut:laidOutB Tryz.prog=true:=by kernel_rfl
theorem aky[Inhabited b7]:kr ctx:=kr.of (by kernel_rfl) afi
theorem aaZ(os:Os)(args:Array Value):laidMetH Tryz.prog Rows.codeShapesUptoRow.laid ((World.doorLaid Tryz.prog 33 os).forCall (λ_ _=>0) ⟨#[],args,[]⟩).memory:=
 laidMetH_of_parts3 (fuel:=8) (laidMet_of_run' 8 (by kernel_rfl) (by kernel_rfl)) (by kernel_rfl) (by kernel_rfl)
mutual
theorem afj{H:Type}:∀d:DataW H,iN d<=Rows.uptoBulk d
 | .lit l=>by cases l<;>simp[iN,Rows.uptoBulk]
 | .nil=>by simp[iN,Rows.uptoBulk]
 | .ptr d=>by simp[iN,Rows.uptoBulk]
 | .slice e s=>by
  have h:=zZ e;simp only[iN,Rows.uptoBulk];omega
 | .agg p=>by
  have h:=zZ p;simp only[iN,Rows.uptoBulk];omega
 | .iface t d=>by simp[iN,Rows.uptoBulk]
 | .map es=>by simp[iN,Rows.uptoBulk]
 | .held h=>by simp[iN,Rows.uptoBulk]
theorem zZ{H:Type}:∀l:List (DataW H),gO l<=Rows.uptoBulkAll l
 |[]=>aa7 _
 |d::r=>by
  have A6:=afj d;have A7:=zZ r;simp only[gO,Rows.uptoBulkAll];omega
end
theorem GF{H:Type}:∀a b:List (DataW H),gO a<=gO (a++b)
 |[],b=>an3 _
 |x::a,b=>by
  have:=GF a b;simp only[agd,gO];omega
theorem UO{H:Type}{l:List (DataW H)}(T:Rows.uptoSmall H l=true):gO l<=1048576:=by
 have h:Rows.uptoBulkAll l<=1048576:=adL T;have:=zZ l;omega
theorem aa0:("strings.asciiSpace",DataW.agg (Ha.map λz=>.lit (.int .u8 z)))∈(Rows.codeShapesUptoRow.laid:List (String×DataW Unit)):=by
 have h:(Rows.codeShapesUptoRow.laid:List (String×DataW Unit))=[("unicode.White_Space",Rows.laid_unicode_White_Space),("strings.asciiSpace",DataW.agg (Ha.map λz=>.lit (.int .u8 z)))]:=by kernel_rfl
 rw[h];exact afA _ (List.mem_singleton.2 rfl)
theorem anO{W:World}(h:W.ShapedOpen Tryz.prog):∃m,W.cell? ⟨2,0,none⟩=some (.int .i64 m):=
 cell_of_shapedOpen_int (t:=3) (zero:=#[.int .i64 0]) h (adL (by kernel_rfl)) (by kernel_rfl) rfl (by kernel_rfl) (by kernel_rfl) (by kernel_rfl)
theorem afk{W:World}(J:laidMetH Tryz.prog Rows.codeShapesUptoRow.laid W)(m:Int)(hm:W.cell? ⟨2,0,none⟩=some (.int .i64 m)):fg W (λ_=>False) (@ctx ⟨m⟩).gl:=by
 rw[MakeChecks.laidMetH_plain _ _ _ (by kernel_rfl)]at J;intro x M;have O:x∈[((0:Nat),D.agg (Ha.map λz=>.int .u8 z)),(2,.int .i64 m)]:=M;simp only[abd,afI,an2]at O;rcases O with rfl|rfl
 ·obtain⟨a,b⟩:=Nk (name:= "strings.asciiSpace") (n:=256) (e:=5) (t:=251) (g:=0) (k:=.u8) (zs:=Ha) J aa0 (by kernel_rfl) (by kernel_rfl) (by kernel_rfl) (by kernel_rfl) (by kernel_rfl) (by decide) (by kernel_rfl);exact⟨a,id,b⟩
 ·refine⟨⟨(Eb hm).1,λ_ h=>by cases h⟩,id,.int .i64 m,.int _ _,λi c hi=>?_⟩;match i,hi with
  |0,hi=>simp[Value.cells]at hi;subst hi;exact hm
  |i+1,hi=>simp[Value.cells]at hi
theorem CO(os:Os)(started:os.Started)(H:Type)(enc:TypeId×Value->H)(F:Stop.Interp):
 ReturnsInHanded {} Tryz.checked os 6 .any (λw args=>((Rows.OpenSpec.upto Rows.codeShapesSpec).pre enc Tryz.prog f6 [] false w args/\laidMetH Tryz.prog Rows.codeShapesUptoRow.laid w)/\sizedMet enc Tryz.prog f6 (Rows.OpenSpec.upto Rows.codeShapesSpec) false w args)
  (((Rows.OpenSpec.upto Rows.codeShapesSpec).at F).post enc Tryz.prog f6 false true false false):=by
 refine UN (C:=Tryz.checked) (s:=Rows.OpenSpec.upto Rows.codeShapesSpec) (k:=Rows.uptoSmall) rfl (X:=λw _=>laidMetH Tryz.prog Rows.codeShapesUptoRow.laid w) (λ_ _ _ hh h=>h.of_heap hh) Tryz.own started (by kernel_rfl) Tryz.func6
  (GD (enc:=enc) (C:=Tryz.checked) (os:=os) (s:=Rows.OpenSpec.upto Rows.codeShapesSpec) (k:=Rows.uptoSmall) rfl (X:=λw _=>laidMetH Tryz.prog Rows.codeShapesUptoRow.laid w) false (World.doorLaid Tryz.prog 33 os)
   #[.agg #[.string .empty,.slice none 0 0,.slice none 0 0]] 8 rfl (World.shaped_of_RefB (by kernel_rfl) (by kernel_rfl)) (by kernel_rfl) (by kernel_rfl) (by kernel_rfl) (aaZ os _)) ?_
 intro W base args I gs before U V Y J Z;obtain⟨m,hm⟩:=anO Z;letI:Inhabited b7:=⟨m⟩
 have A8:=UO Y;refine I6 (X:=ctx) aky (s:=Rows.codeShapesSpec) (L:=[25,9,22,23,64,3,4,2,119,114,112,115,26,116,117]) (tb:=4) (by kernel_rfl) Tryz.laidOut (by kernel_rfl) (by kernel_rfl) Tryz.underlying4 rfl ?_ U V (afk J m hm) ?_
 ·intro I y;match I,y with
  |[d1],_=>rfl
 ·intro xs A' A0 A9;have A1:bQ xs<=1048576:=by
   have:gO I<=gO (I++gs):=GF I gs;omega
  match xs,A' with
  |[A2],_=>
   obtain⟨n,M⟩:=A0 0 25 A2 (by kernel_rfl) rfl;obtain⟨p,rfl,A3⟩:=aaT M;exact Hv A3 (by simp only[pK,bQ]at A1⊢;omega) aka
set_option maxHeartbeats 40000000 in
theorem CP:joinedFacts Tryz.pinned.checked.prog 6 f6 (Rows.OpenSpec.upto Rows.codeShapesSpec).bare Rows.codeShapesUptoRow=true:=by
 unfold joinedFacts;simp only[Ds];repeat' apply And.intro
 all_goals (as_aux_lemma=>kernel_rfl)
theorem EC:Rows.CodeShapesUptoSaid:=
 OpenClaim.holds_of_cond 6 f6 rfl rfl rfl rfl rfl rfl rfl ⟨rfl,rfl,rfl,rfl,rfl⟩ rfl rfl rfl rfl rfl (by as_aux_lemma=>kernel_rfl) Tryz.func6 CP
  (adL (by as_aux_lemma=>kernel_rfl)) (by unfold Func.isWrapper;first|(rw[abf (by decide+kernel)];kernel_rfl)|(rw[aa4 (by decide+kernel)];exact⟨rfl,rfl⟩))
  (λos started H enc _ F=>CO os started H enc F)
theorem codeShapes_card_holds:Rows.CodeShapesUptoCardSaid:=
 Claim7.holds_tied_plain_at .later [] _ _ _ _
  EC (λ_ h=>by cases h) (by as_aux_lemma=>kernel_rfl) (λ_ h=>by cases h) codeShapesUpto_row_tie rfl ⟨rfl,rfl⟩ (by as_aux_lemma=>kernel_rfl) rfl
  (λf fn A4 A5=>by
   obtain rfl:f=6:=Option.some.inj ((show Tryz.prog.funcNamed "servitor/servitorlaw24.CodeShapes" =some 6 by kernel_rfl).symm.trans A4) |>.symm;obtain rfl:fn=f6:=(Option.some.inj (Tryz.func6.symm.trans A5)).symm;exact⟨by as_aux_lemma=>kernel_rfl,λj t E=>by
    rw[Tryz.params6]at E;match j,E with
    |0,E=>(obtain rfl:t=25:=by simpa using E.symm);exact (show Tryz.prog.wantsStandIn 25=false by kernel_rfl)
    |j+1,E=>simp at E⟩)
  (by as_aux_lemma=>kernel_rfl)
#print axioms codeShapes_card_holds
end Go.Proofs.YtccmboenpbjhnaaGreatDoor
