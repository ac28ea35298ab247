/-
  The tied card of MeanJoins in its second form is proved: where the program and what else is given hold at most 1048576 values and letters, the law returns true and leaves its arguments as they were. Conditions: those of the row itself (the listed package variables start as the program lays them; the bound).
-/
import Derived.Test.YtccmboenpbjhnaaGreatDoorD6
import Derived.Test.YtccmboenpbjhnaaGreatDoorRows
import Derived.Test.YtccmboenpbjhnaaGreatDoorCards
import Derived.Test.YtccmboenpbjhnaaGreatDoorTie
import Derived.JoinedOf
import Derived.LaidMore
import Derived.LaidHandle
import Derived.SevenTiedAt
set_option linter.all false
namespace Go.Proofs.YtccmboenpbjhnaaGreatDoor
open Go Go.Am Go.Proofs.Tryz
set_option maxRecDepth 100000
theorem Tryz.own:ownKnob Tryz.prog.godebug=none:=by kernel_rfl
theorem Tryz.laidOut:laidOutB Tryz.prog=true:=by kernel_rfl
theorem ahc[Inhabited bA]:jo ctx:=jo.of (by kernel_rfl) abK
theorem Xz(os:Os)(args:Array Value):laidMetH Tryz.prog Rows.meanJoinsUptoRow.laid ((World.doorLaid Tryz.prog 33 os).forCall (λ_ _=>0) ⟨#[],args,[]⟩).memory:=
 laidMetH_of_parts3 (fuel:=8) (laidMet_of_run' 8 (by kernel_rfl) (by kernel_rfl)) (by kernel_rfl) (by kernel_rfl)
mutual
theorem abL{H:Type}:∀d:DataW H,gJ d<=Rows.uptoBulk d
 | .lit l=>by cases l<;>simp[gJ,Rows.uptoBulk]
 | .nil=>by simp[gJ,Rows.uptoBulk]
 | .ptr d=>by simp[gJ,Rows.uptoBulk]
 | .slice e s=>by
  have h:=xB e;simp only[gJ,Rows.uptoBulk];omega
 | .agg p=>by
  have h:=xB p;simp only[gJ,Rows.uptoBulk];omega
 | .iface t d=>by simp[gJ,Rows.uptoBulk]
 | .map es=>by simp[gJ,Rows.uptoBulk]
 | .held h=>by simp[gJ,Rows.uptoBulk]
theorem xB{H:Type}:∀l:List (DataW H),fK l<=Rows.uptoBulkAll l
 |[]=>aai _
 |d::r=>by
  have AE:=abL d;have AF:=xB r;simp only[fK,Rows.uptoBulkAll];omega
end
theorem D0{H:Type}:∀a b:List (DataW H),fK a<=fK (a++b)
 |[],b=>alp _
 |x::a,b=>by
  have:=D0 a b;simp only[afK,fK];omega
theorem Ri{H:Type}{l:List (DataW H)}(T:Rows.uptoSmall H l=true):fK l<=1048576:=by
 have h:Rows.uptoBulkAll l<=1048576:=acE T;have:=xB l;omega
theorem XA:("strings.asciiSpace",DataW.agg (EB.map λz=>.lit (.int .u8 z)))∈(Rows.meanJoinsUptoRow.laid:List (String×DataW Unit)):=by
 have h:(Rows.meanJoinsUptoRow.laid:List (String×DataW Unit))=[("unicode.White_Space",Rows.laid_unicode_White_Space),("strings.asciiSpace",DataW.agg (EB.map λz=>.lit (.int .u8 z)))]:=by kernel_rfl
 rw[h];exact acJ _ (List.mem_singleton.2 rfl)
theorem akm{W:World}(h:W.ShapedOpen Tryz.prog):∃m,W.cell? ⟨2,0,none⟩=some (.int .i64 m):=
 cell_of_shapedOpen_int (t:=3) (zero:=#[.int .i64 0]) h (acE (by kernel_rfl)) (by kernel_rfl) rfl (by kernel_rfl) (by kernel_rfl) (by kernel_rfl)
theorem abM{W:World}(I:laidMetH Tryz.prog Rows.meanJoinsUptoRow.laid W)(m:Int)(hm:W.cell? ⟨2,0,none⟩=some (.int .i64 m)):eh W (λ_=>False) (@ctx ⟨m⟩).gl:=by
 rw[MakeChecks.laidMetH_plain _ _ _ (by kernel_rfl)]at I;intro x M;have N:x∈[((0:Nat),D.agg (EB.map λz=>.int .u8 z)),(2,.int .i64 m)]:=M;simp only[aan,acX,akI]at N;rcases N with rfl|rfl
 ·obtain⟨a,b⟩:=JU (name:= "strings.asciiSpace") (n:=256) (e:=5) (t:=251) (g:=0) (k:=.u8) (zs:=EB) I XA (by kernel_rfl) (by kernel_rfl) (by kernel_rfl) (by kernel_rfl) (by kernel_rfl) (by decide) (by kernel_rfl);exact⟨a,id,b⟩
 ·refine⟨⟨(BZ hm).1,λ_ h=>by cases h⟩,id,.int .i64 m,.int _ _,λi c hi=>?_⟩;match i,hi with
  |0,hi=>simp[Value.cells]at hi;subst hi;exact hm
  |i+1,hi=>simp[Value.cells]at hi
theorem Cd(os:Os)(started:os.Started)(H:Type)(enc:TypeId×Value->H)(F:Stop.Interp):
 ReturnsInHanded {} Tryz.checked os 8 .any (λw args=>((Rows.OpenSpec.upto Rows.meanJoinsSpec).pre enc Tryz.prog f8 [] false w args/\laidMetH Tryz.prog Rows.meanJoinsUptoRow.laid w)/\sizedMet enc Tryz.prog f8 (Rows.OpenSpec.upto Rows.meanJoinsSpec) false w args)
  (((Rows.OpenSpec.upto Rows.meanJoinsSpec).at F).post enc Tryz.prog f8 false true false false):=by
 refine Rh (C:=Tryz.checked) (s:=Rows.OpenSpec.upto Rows.meanJoinsSpec) (k:=Rows.uptoSmall) rfl (X:=λw _=>laidMetH Tryz.prog Rows.meanJoinsUptoRow.laid w) (λ_ _ _ hh h=>h.of_heap hh) Tryz.own started (by kernel_rfl) Tryz.func8
  (DZ (enc:=enc) (C:=Tryz.checked) (os:=os) (s:=Rows.OpenSpec.upto Rows.meanJoinsSpec) (k:=Rows.uptoSmall) rfl (X:=λw _=>laidMetH Tryz.prog Rows.meanJoinsUptoRow.laid w) false (World.doorLaid Tryz.prog 33 os)
   #[.agg #[.string .empty,.slice none 0 0,.slice none 0 0],.int .i64 0,.slice none 0 0,.int .i64 0] 8 rfl (World.shaped_of_RefB (by kernel_rfl) (by kernel_rfl)) (by kernel_rfl) (by kernel_rfl) (by kernel_rfl) (Xz os _)) ?_
 intro W base args E gs before U V O I Y;obtain⟨m,hm⟩:=akm Y;letI:Inhabited bA:=⟨m⟩
 have AG:=Ri O;refine Gn (X:=ctx) ahc (s:=Rows.meanJoinsSpec) (L:=[25,9,22,23,64,3,4,2,119,114,112,115,26,116,117]) (tb:=4) (by kernel_rfl) Tryz.laidOut (by kernel_rfl) (by kernel_rfl) Tryz.underlying4 rfl ?_ U V (abM I m hm) ?_
 ·intro E Z;match E,Z with
  |[d1,d2,d3,d4],_=>rfl
 ·intro xs q J AH;have y:dP xs<=1048576:=by
   have:fK E<=fK (E++gs):=D0 E gs;omega
  match xs,q with
  |[A',A0,A1,A2],_=>
   obtain⟨n,M⟩:=J 0 25 A' (by kernel_rfl) rfl;obtain⟨p,rfl,A3⟩:=WX M;obtain⟨AI,A4⟩:=J 1 3 A0 (by kernel_rfl) rfl;obtain⟨A5,rfl,O⟩:=ju Tryz.underlying3 A4;obtain⟨AJ,A6⟩:=J 2 26 A1 (by kernel_rfl) rfl;obtain⟨C,rfl,A7⟩:=Dy A6;have A8:∀c∈C,aG c:=λc A9=>by have:=aaH.1 A7 c A9;unfold xp at this;unfold aG;simpa using this
   obtain⟨AK,AA⟩:=J 3 3 A2 (by kernel_rfl) rfl;obtain⟨AB,rfl,AL⟩:=ju Tryz.underlying3 AA;exact Gp C A5 AB A3 (by simp only[oC,dP]at y⊢;omega) A8
set_option maxHeartbeats 40000000 in
theorem Ce:joinedFacts Tryz.pinned.checked.prog 8 f8 (Rows.OpenSpec.upto Rows.meanJoinsSpec).bare Rows.meanJoinsUptoRow=true:=by
 unfold joinedFacts;simp only[Ds];repeat' apply And.intro
 all_goals (as_aux_lemma=>kernel_rfl)
theorem D3:Rows.MeanJoinsUptoSaid:=
 OpenClaim.holds_of_cond 8 f8 rfl rfl rfl rfl rfl rfl rfl ⟨rfl,rfl,rfl,rfl,rfl⟩ rfl rfl rfl rfl rfl (by as_aux_lemma=>kernel_rfl) Tryz.func8 Ce
  (acE (by as_aux_lemma=>kernel_rfl)) (by unfold Func.isWrapper;first|(rw[aap (by decide+kernel)];kernel_rfl)|(rw[aah (by decide+kernel)];exact⟨rfl,rfl⟩))
  (λos started H enc _ F=>Cd os started H enc F)
theorem meanJoins_card_holds:Rows.MeanJoinsUptoCardSaid:=
 Claim7.holds_tied_plain_at .later [] _ _ _ _
  D3 (λ_ h=>by cases h) (by as_aux_lemma=>kernel_rfl) (λ_ h=>by cases h) meanJoinsUpto_row_tie rfl ⟨rfl,rfl⟩ (by as_aux_lemma=>kernel_rfl) rfl
  (λf fn AC AD=>by
   obtain rfl:f=8:=Option.some.inj ((show Tryz.prog.funcNamed "servitor/servitorlaw23.MeanJoins" =some 8 by kernel_rfl).symm.trans AC) |>.symm;obtain rfl:fn=f8:=(Option.some.inj (Tryz.func8.symm.trans AD)).symm;exact⟨by as_aux_lemma=>kernel_rfl,λj t A=>by
    rw[Tryz.params8]at A;match j,A with
    |0,A=>(obtain rfl:t=25:=by simpa using A.symm);exact (show Tryz.prog.wantsStandIn 25=false by kernel_rfl)
    |1,A=>(obtain rfl:t=3:=by simpa using A.symm);exact (show Tryz.prog.wantsStandIn 3=false by kernel_rfl)
    |2,A=>(obtain rfl:t=26:=by simpa using A.symm);exact (show Tryz.prog.wantsStandIn 26=false by kernel_rfl)
    |3,A=>(obtain rfl:t=3:=by simpa using A.symm);exact (show Tryz.prog.wantsStandIn 3=false by kernel_rfl)
    |j+4,A=>simp at A⟩)
  (by as_aux_lemma=>kernel_rfl)
#print axioms meanJoins_card_holds
end Go.Proofs.YtccmboenpbjhnaaGreatDoor
