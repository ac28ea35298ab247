/-
  The tied card of CheckTexts is proved: the law returns true for every input and leaves its argument as it was. Conditions: those of the row itself (the listed package variables start as the program lays them).
-/
import Derived.Test.YtccmboenpbjhnaaGreatDoorF7
import Derived.Test.YtccmboenpbjhnaaGreatDoorRows
import Derived.Test.YtccmboenpbjhnaaGreatDoorCards
import Derived.Test.YtccmboenpbjhnaaGreatDoorTie
import Derived.JoinedOf
import Derived.LaidMore
import Derived.LaidHandle
import Derived.SevenTiedAt
set_option linter.all false
namespace Go.Proofs.YtccmboenpbjhnaaGreatDoor
open Go Go.Am Go.Proofs.Tryz
set_option maxRecDepth 100000
theorem Tryz.own:ownKnob Tryz.prog.godebug=none:=by kernel_rfl
theorem Tryz.laidOut:laidOutB Tryz.prog=true:=by kernel_rfl
theorem ap8[Inhabited bV]:lN ctx:=lN.of (by kernel_rfl) aj6
theorem afI(os:Os)(args:Array Value):laidMetH Tryz.prog Rows.checkTextsRow.laid ((World.doorLaid Tryz.prog 33 os).forCall (λ_ _=>0) ⟨#[],args,[]⟩).memory:=
 laidMetH_of_parts3 (fuel:=8) (laidMet_of_run' 8 (by kernel_rfl) (by kernel_rfl)) (by kernel_rfl) (by kernel_rfl)
theorem afJ:("strings.asciiSpace",DataW.agg (JF.map λz=>.lit (.int .u8 z)))∈(Rows.checkTextsRow.laid:List (String×DataW Unit)):=by
 have h:(Rows.checkTextsRow.laid:List (String×DataW Unit))=[("unicode.White_Space",Rows.laid_unicode_White_Space),("strings.asciiSpace",DataW.agg (JF.map λz=>.lit (.int .u8 z)))]:=by kernel_rfl
 rw[h];exact afT _ (akB.2 rfl)
theorem aso{W:World}(h:W.ShapedOpen Tryz.prog):∃m,W.cell? ⟨2,0,none⟩=some (.int .i64 m):=
 cell_of_shapedOpen_int (t:=3) (zero:=#[.int .i64 0]) h (acV (by kernel_rfl)) (by kernel_rfl) rfl (by kernel_rfl) (by kernel_rfl) (by kernel_rfl)
theorem aj7{W:World}(I:laidMetH Tryz.prog Rows.checkTextsRow.laid W)(m:Int)(hm:W.cell? ⟨2,0,none⟩=some (.int .i64 m)):fF W (λ_=>False) (@ctx ⟨m⟩).gl:=by
 rw[MakeChecks.laidMetH_plain _ _ _ (by kernel_rfl)]at I;intro x O;have J:x∈[((0:Nat),D.agg (JF.map λz=>.int .u8 z)),(2,.int .i64 m)]:=O;simp only[aaC,afQ,aon]at J;rcases J with rfl|rfl
 ·obtain⟨a,b⟩:=Qw (name:= "strings.asciiSpace") (n:=256) (e:=5) (t:=251) (g:=0) (k:=.u8) (zs:=JF) I afJ (by kernel_rfl) (by kernel_rfl) (by kernel_rfl) (by kernel_rfl) (by kernel_rfl) (by decide) (by kernel_rfl);exact⟨a,id,b⟩
 ·refine⟨⟨(GP hm).1,λ_ h=>by cases h⟩,id,.int .i64 m,.int _ _,λi c hi=>?_⟩;match i,hi with
  |0,hi=>simp[Value.cells]at hi;subst hi;exact hm
  |i+1,hi=>simp[Value.cells]at hi
theorem Fc(os:Os)(started:os.Started)(H:Type)(enc:TypeId×Value->H):
 ReturnsInHanded {} Tryz.checked os 10 .any (λw args=>(Rows.checkTextsSpec.pre enc Tryz.prog f10 [] false w args/\laidMetH Tryz.prog Rows.checkTextsRow.laid w)/\sizedMet enc Tryz.prog f10 (OpenSpec.ofChange Rows.checkTextsSpec) false w args)
  (Rows.checkTextsSpec.post enc Tryz.prog f10 false true false false):=by
 refine ac9 (C:=Tryz.checked) (X:=λw _=>laidMetH Tryz.prog Rows.checkTextsRow.laid w) (λ_ _ _ hh h=>h.of_heap hh) Tryz.own started (by kernel_rfl) Tryz.func10
  (ChangeSpec.witness_shaped (enc:=enc) (C:=Tryz.checked) (os:=os) (X:=λw _=>laidMetH Tryz.prog Rows.checkTextsRow.laid w) false (World.doorLaid Tryz.prog 33 os)
   #[.string .empty] 8 rfl (World.shaped_of_RefB (by kernel_rfl) (by kernel_rfl)) (by kernel_rfl) (by kernel_rfl) (by kernel_rfl) (afI os _)) ?_
 intro W base args M gs before T U I V;obtain⟨m,hm⟩:=aso V;letI:Inhabited bV:=⟨m⟩
 refine O1 (X:=ctx) ap8 (n:=5) (tb:=4) Tryz.laidOut (by kernel_rfl) (by kernel_rfl) Tryz.underlying4 rfl ?_ T U (aj7 I m hm) ?_
 ·intro M Y;match M,Y with
  |[d1],_=>rfl
 ·intro xs Z y;match xs,Z with
  |[A'],_=>
   obtain⟨s,rfl,_⟩:=O0 Tryz.underlying9 (y 0 9 A' (by kernel_rfl) rfl);exact Ka s
set_option maxHeartbeats 40000000 in
theorem Fe:joinedFacts Tryz.pinned.checked.prog 10 f10 Rows.checkTextsSpec Rows.checkTextsRow=true:=by
 unfold joinedFacts;simp only[Ds];repeat' apply And.intro
 all_goals (as_aux_lemma=>kernel_rfl)
theorem Hi:Rows.CheckTextsSaid:=
 OpenClaim.holds_of_wide 10 f10 rfl rfl rfl rfl rfl rfl rfl ⟨rfl,rfl,rfl,rfl,rfl⟩ rfl rfl rfl rfl rfl (by as_aux_lemma=>kernel_rfl) Tryz.func10 Fe
  (acV (by as_aux_lemma=>kernel_rfl)) (by unfold Func.isWrapper;first|(rw[aat (by decide+kernel)];kernel_rfl)|(rw[aab (by decide+kernel)];exact⟨rfl,rfl⟩))
  (λos started H enc _=>Fc os started H enc)
theorem checkTexts_card_holds:Rows.CheckTextsCardSaid:=
 Claim7.holds_tied_plain_at .later [] [.listed,.data] true Rows.checkTextsCard.stood.harness true
  Hi (λ_ h=>by cases h) (by as_aux_lemma=>kernel_rfl) (λ_ h=>by cases h) checkTexts_row_tie rfl ⟨rfl,rfl⟩ (by as_aux_lemma=>kernel_rfl) rfl
  (λf fn A0 A1=>by
   obtain rfl:f=10:=Option.some.inj ((show Tryz.prog.funcNamed "servitor/servitorlaw25.CheckTexts" =some 10 by kernel_rfl).symm.trans A0) |>.symm;obtain rfl:fn=f10:=(Option.some.inj (Tryz.func10.symm.trans A1)).symm;exact⟨by as_aux_lemma=>kernel_rfl,λj t E=>by
    rw[Tryz.params10]at E;match j,E with
    |0,E=>(obtain rfl:t=9:=by simpa using E.symm);exact (show Tryz.prog.wantsStandIn 9=false by kernel_rfl)
    |j+1,E=>simp at E⟩)
  (by as_aux_lemma=>kernel_rfl)
#print axioms checkTexts_card_holds
end Go.Proofs.YtccmboenpbjhnaaGreatDoor
