/-
  The tied card of MeanFolds in its second form is proved: where the program and what else is given hold at most 1048576 values and letters, the law returns true and leaves its arguments as they were. Conditions: those of the row itself (the listed package variables start as the program lays them; the bound).
-/
import Derived.Test.YtccmboenpbjhnaaGreatDoorB7
import Derived.Test.YtccmboenpbjhnaaGreatDoorRows
import Derived.Test.YtccmboenpbjhnaaGreatDoorCards
import Derived.Test.YtccmboenpbjhnaaGreatDoorTie
import Derived.JoinedOf
import Derived.LaidMore
import Derived.LaidHandle
import Derived.SevenTiedAt
set_option linter.all false
namespace Go.Proofs.YtccmboenpbjhnaaGreatDoor
open Go Go.Am Go.Proofs.Tryz
set_option maxRecDepth 100000
theorem Tryz.own:ownKnob Tryz.prog.godebug=none:=by kernel_rfl
theorem Tryz.laidOut:laidOutB Tryz.prog=true:=by kernel_rfl
theorem ai0[Inhabited bI]:jU ctx:=jU.of (by kernel_rfl) adw
theorem Zg(os:Os)(args:Array Value):laidMetH Tryz.prog Rows.meanFoldsUptoRow.laid ((World.doorLaid Tryz.prog 33 os).forCall (λ_ _=>0) ⟨#[],args,[]⟩).memory:=
 laidMetH_of_parts3 (fuel:=8) (laidMet_of_run' 8 (by kernel_rfl) (by kernel_rfl)) (by kernel_rfl) (by kernel_rfl)
mutual
theorem adx{H:Type}:∀d:DataW H,ic d<=Rows.uptoBulk d
 | .lit l=>by cases l<;>simp[ic,Rows.uptoBulk]
 | .nil=>by simp[ic,Rows.uptoBulk]
 | .ptr d=>by simp[ic,Rows.uptoBulk]
 | .slice e s=>by
  have h:=yz e;simp only[ic,Rows.uptoBulk];omega
 | .agg p=>by
  have h:=yz p;simp only[ic,Rows.uptoBulk];omega
 | .iface t d=>by simp[ic,Rows.uptoBulk]
 | .map es=>by simp[ic,Rows.uptoBulk]
 | .held h=>by simp[ic,Rows.uptoBulk]
theorem yz{H:Type}:∀l:List (DataW H),gj l<=Rows.uptoBulkAll l
 |[]=>abO _
 |d::r=>by
  have AB:=adx d;have AC:=yz r;simp only[gj,Rows.uptoBulkAll];omega
end
theorem E7{H:Type}:∀a b:List (DataW H),gj a<=gj (a++b)
 |[],b=>ang _
 |x::a,b=>by
  have:=E7 a b;simp only[List.cons_append,gj];omega
theorem SO{H:Type}{l:List (DataW H)}(O:Rows.uptoSmall H l=true):gj l<=1048576:=by
 have h:Rows.uptoBulkAll l<=1048576:=ad7 O;have:=yz l;omega
theorem Zh:("strings.asciiSpace",DataW.agg (FJ.map λz=>.lit (.int .u8 z)))∈(Rows.meanFoldsUptoRow.laid:List (String×DataW Unit)):=by
 have h:(Rows.meanFoldsUptoRow.laid:List (String×DataW Unit))=[("unicode.White_Space",Rows.laid_unicode_White_Space),("strings.asciiSpace",DataW.agg (FJ.map λz=>.lit (.int .u8 z)))]:=by kernel_rfl
 rw[h];exact ael _ (List.mem_singleton.2 rfl)
theorem amd{W:World}(h:W.ShapedOpen Tryz.prog):∃m,W.cell? ⟨2,0,none⟩=some (.int .i64 m):=
 cell_of_shapedOpen_int (t:=3) (zero:=#[.int .i64 0]) h (ad7 (by kernel_rfl)) (by kernel_rfl) rfl (by kernel_rfl) (by kernel_rfl) (by kernel_rfl)
theorem ady{W:World}(I:laidMetH Tryz.prog Rows.meanFoldsUptoRow.laid W)(m:Int)(hm:W.cell? ⟨2,0,none⟩=some (.int .i64 m)):eG W (λ_=>False) (@ctx ⟨m⟩).gl:=by
 rw[MakeChecks.laidMetH_plain _ _ _ (by kernel_rfl)]at I;intro x J;have N:x∈[((0:Nat),D.agg (FJ.map λz=>.int .u8 z)),(2,.int .i64 m)]:=J;simp only[abV,aed,amt]at N;rcases N with rfl|rfl
 ·obtain⟨a,b⟩:=K1 (name:= "strings.asciiSpace") (n:=256) (e:=5) (t:=251) (g:=0) (k:=.u8) (zs:=FJ) I Zh (by kernel_rfl) (by kernel_rfl) (by kernel_rfl) (by kernel_rfl) (by kernel_rfl) (by decide) (by kernel_rfl);exact⟨a,id,b⟩
 ·refine⟨⟨(CT hm).1,λ_ h=>by cases h⟩,id,.int .i64 m,.int _ _,λi c hi=>?_⟩;match i,hi with
  |0,hi=>simp[Value.cells]at hi;subst hi;exact hm
  |i+1,hi=>simp[Value.cells]at hi
theorem Db(os:Os)(started:os.Started)(H:Type)(enc:TypeId×Value->H)(F:Stop.Interp):
 ReturnsInHanded {} Tryz.checked os 9 .any (λw args=>((Rows.OpenSpec.upto Rows.meanFoldsSpec).pre enc Tryz.prog f9 [] false w args/\laidMetH Tryz.prog Rows.meanFoldsUptoRow.laid w)/\sizedMet enc Tryz.prog f9 (Rows.OpenSpec.upto Rows.meanFoldsSpec) false w args)
  (((Rows.OpenSpec.upto Rows.meanFoldsSpec).at F).post enc Tryz.prog f9 false true false false):=by
 refine SN (C:=Tryz.checked) (s:=Rows.OpenSpec.upto Rows.meanFoldsSpec) (k:=Rows.uptoSmall) rfl (X:=λw _=>laidMetH Tryz.prog Rows.meanFoldsUptoRow.laid w) (λ_ _ _ hh h=>h.of_heap hh) Tryz.own started (by kernel_rfl) Tryz.func9
  (E6 (enc:=enc) (C:=Tryz.checked) (os:=os) (s:=Rows.OpenSpec.upto Rows.meanFoldsSpec) (k:=Rows.uptoSmall) rfl (X:=λw _=>laidMetH Tryz.prog Rows.meanFoldsUptoRow.laid w) false (World.doorLaid Tryz.prog 33 os)
   #[.agg #[.string .empty,.slice none 0 0,.slice none 0 0],.slice none 0 0,.int .i64 0] 8 rfl (World.shaped_of_RefB (by kernel_rfl) (by kernel_rfl)) (by kernel_rfl) (by kernel_rfl) (by kernel_rfl) (Zg os _)) ?_
 intro W base args E gs before T U V I Y;obtain⟨m,hm⟩:=amd Y;letI:Inhabited bI:=⟨m⟩
 have AD:=SO V;refine Hq (X:=ctx) ai0 (s:=Rows.meanFoldsSpec) (L:=[25,9,22,23,64,3,4,2,119,114,112,115,26,116,117]) (tb:=4) (by kernel_rfl) Tryz.laidOut (by kernel_rfl) (by kernel_rfl) Tryz.underlying4 rfl ?_ T U (ady I m hm) ?_
 ·intro E Z;match E,Z with
  |[d1,d2,d3],_=>rfl
 ·intro xs q M AE;have y:db xs<=1048576:=by
   have:gj E<=gj (E++gs):=E7 E gs;omega
  match xs,q with
  |[A',A0,A1],_=>
   obtain⟨n,J⟩:=M 0 25 A' (by kernel_rfl) rfl;obtain⟨p,rfl,A2⟩:=Yt J;obtain⟨AF,A3⟩:=M 1 26 A0 (by kernel_rfl) rfl;obtain⟨C,rfl,A4⟩:=EG A3;have A5:∀c∈C,aI c:=λc A6=>by have:=ab2.1 A4 c A6;unfold ym at this;unfold aI;simpa using this
   obtain⟨AG,A7⟩:=M 2 3 A1 (by kernel_rfl) rfl;obtain⟨A8,rfl,AH⟩:=kX Tryz.underlying3 A7;exact Hr C A8 A2 (by simp only[nV,db]at y⊢;omega) A5
set_option maxHeartbeats 40000000 in
theorem Dc:joinedFacts Tryz.pinned.checked.prog 9 f9 (Rows.OpenSpec.upto Rows.meanFoldsSpec).bare Rows.meanFoldsUptoRow=true:=by
 unfold joinedFacts;simp only[Ds];repeat' apply And.intro
 all_goals (as_aux_lemma=>kernel_rfl)
theorem E8:Rows.MeanFoldsUptoSaid:=
 OpenClaim.holds_of_cond 9 f9 rfl rfl rfl rfl rfl rfl rfl ⟨rfl,rfl,rfl,rfl,rfl⟩ rfl rfl rfl rfl rfl (by as_aux_lemma=>kernel_rfl) Tryz.func9 Dc
  (ad7 (by as_aux_lemma=>kernel_rfl)) (by unfold Func.isWrapper;first|(rw[abT (by decide+kernel)];kernel_rfl)|(rw[abN (by decide+kernel)];exact⟨rfl,rfl⟩))
  (λos started H enc _ F=>Db os started H enc F)
theorem meanFolds_card_holds:Rows.MeanFoldsUptoCardSaid:=
 Claim7.holds_tied_plain_at .later [] _ _ _ _
  E8 (λ_ h=>by cases h) (by as_aux_lemma=>kernel_rfl) (λ_ h=>by cases h) meanFoldsUpto_row_tie rfl ⟨rfl,rfl⟩ (by as_aux_lemma=>kernel_rfl) rfl
  (λf fn A9 AA=>by
   obtain rfl:f=9:=Option.some.inj ((show Tryz.prog.funcNamed "servitor/servitorlaw23.MeanFolds" =some 9 by kernel_rfl).symm.trans A9) |>.symm;obtain rfl:fn=f9:=(Option.some.inj (Tryz.func9.symm.trans AA)).symm;exact⟨by as_aux_lemma=>kernel_rfl,λj t A=>by
    rw[Tryz.params9]at A;match j,A with
    |0,A=>(obtain rfl:t=25:=by simpa using A.symm);exact (show Tryz.prog.wantsStandIn 25=false by kernel_rfl)
    |1,A=>(obtain rfl:t=26:=by simpa using A.symm);exact (show Tryz.prog.wantsStandIn 26=false by kernel_rfl)
    |2,A=>(obtain rfl:t=3:=by simpa using A.symm);exact (show Tryz.prog.wantsStandIn 3=false by kernel_rfl)
    |j+3,A=>simp at A⟩)
  (by as_aux_lemma=>kernel_rfl)
#print axioms meanFolds_card_holds
end Go.Proofs.YtccmboenpbjhnaaGreatDoor
