/-
  The tied card of MeanMore in its second form is proved: where the program and what else is given hold at most 1048576 values and letters, the law returns true and leaves its arguments as they were. Conditions: those of the row itself (the listed package variables start as the program lays them; the bound).
-/
import Derived.Test.YtccmboenpbjhnaaGreatDoorA6
import Derived.Test.YtccmboenpbjhnaaGreatDoorRows
import Derived.Test.YtccmboenpbjhnaaGreatDoorCards
import Derived.Test.YtccmboenpbjhnaaGreatDoorTie
import Derived.JoinedOf
import Derived.LaidMore
import Derived.LaidHandle
import Derived.SevenTiedAt
set_option linter.all false
namespace Go.Proofs.YtccmboenpbjhnaaGreatDoor
open Go Go.Am Go.Proofs.Tryz
set_option maxRecDepth 100000
theorem Tryz.own:ownKnob Tryz.prog.godebug=none:=by kernel_rfl
theorem Tryz.laidOut:laidOutB Tryz.prog=true:=by kernel_rfl
theorem agR[Inhabited bB]:jl ctx:=jl.of (by kernel_rfl) abw
theorem Xq(os:Os)(args:Array Value):laidMetH Tryz.prog Rows.meanMoreUptoRow.laid ((World.doorLaid Tryz.prog 33 os).forCall (λ_ _=>0) ⟨#[],args,[]⟩).memory:=
 laidMetH_of_parts3 (fuel:=8) (laidMet_of_run' 8 (by kernel_rfl) (by kernel_rfl)) (by kernel_rfl) (by kernel_rfl)
mutual
theorem abx{H:Type}:∀d:DataW H,gG d<=Rows.uptoBulk d
 | .lit l=>by cases l<;>simp[gG,Rows.uptoBulk]
 | .nil=>by simp[gG,Rows.uptoBulk]
 | .ptr d=>by simp[gG,Rows.uptoBulk]
 | .slice e s=>by
  have h:=xy e;simp only[gG,Rows.uptoBulk];omega
 | .agg p=>by
  have h:=xy p;simp only[gG,Rows.uptoBulk];omega
 | .iface t d=>by simp[gG,Rows.uptoBulk]
 | .map es=>by simp[gG,Rows.uptoBulk]
 | .held h=>by simp[gG,Rows.uptoBulk]
theorem xy{H:Type}:∀l:List (DataW H),fG l<=Rows.uptoBulkAll l
 |[]=>aae _
 |d::r=>by
  have AE:=abx d;have AF:=xy r;simp only[fG,Rows.uptoBulkAll];omega
end
theorem DM{H:Type}:∀a b:List (DataW H),fG a<=fG (a++b)
 |[],b=>ak6 _
 |x::a,b=>by
  have:=DM a b;simp only[List.cons_append,fG];omega
theorem Q1{H:Type}{l:List (DataW H)}(O:Rows.uptoSmall H l=true):fG l<=1048576:=by
 have h:Rows.uptoBulkAll l<=1048576:=acw O;have:=xy l;omega
theorem Xr:("strings.asciiSpace",DataW.agg (Ej.map λz=>.lit (.int .u8 z)))∈(Rows.meanMoreUptoRow.laid:List (String×DataW Unit)):=by
 have h:(Rows.meanMoreUptoRow.laid:List (String×DataW Unit))=[("unicode.White_Space",Rows.laid_unicode_White_Space),("strings.asciiSpace",DataW.agg (Ej.map λz=>.lit (.int .u8 z)))]:=by kernel_rfl
 rw[h];exact acI _ (List.mem_singleton.2 rfl)
theorem ajV{W:World}(h:W.ShapedOpen Tryz.prog):∃m,W.cell? ⟨2,0,none⟩=some (.int .i64 m):=
 cell_of_shapedOpen_int (t:=3) (zero:=#[.int .i64 0]) h (acw (by kernel_rfl)) (by kernel_rfl) rfl (by kernel_rfl) (by kernel_rfl) (by kernel_rfl)
theorem aby{W:World}(I:laidMetH Tryz.prog Rows.meanMoreUptoRow.laid W)(m:Int)(hm:W.cell? ⟨2,0,none⟩=some (.int .i64 m)):ec W (λ_=>False) (@ctx ⟨m⟩).gl:=by
 rw[MakeChecks.laidMetH_plain _ _ _ (by kernel_rfl)]at I;intro x M;have N:x∈[((0:Nat),D.agg (Ej.map λz=>.int .u8 z)),(2,.int .i64 m)]:=M;simp only[aak,ae6,ak5]at N;rcases N with rfl|rfl
 ·obtain⟨a,b⟩:=JB (name:= "strings.asciiSpace") (n:=256) (e:=5) (t:=251) (g:=0) (k:=.u8) (zs:=Ej) I Xr (by kernel_rfl) (by kernel_rfl) (by kernel_rfl) (by kernel_rfl) (by kernel_rfl) (by decide) (by kernel_rfl);exact⟨a,id,b⟩
 ·refine⟨⟨(BN hm).1,λ_ h=>by cases h⟩,id,.int .i64 m,.int _ _,λi c hi=>?_⟩;match i,hi with
  |0,hi=>simp[Value.cells]at hi;subst hi;exact hm
  |i+1,hi=>simp[Value.cells]at hi
theorem DN(os:Os)(started:os.Started)(H:Type)(enc:TypeId×Value->H)(F:Stop.Interp):
 ReturnsInHanded {} Tryz.checked os 7 .any (λw args=>((Rows.OpenSpec.upto Rows.meanMoreSpec).pre enc Tryz.prog f7 [] false w args/\laidMetH Tryz.prog Rows.meanMoreUptoRow.laid w)/\sizedMet enc Tryz.prog f7 (Rows.OpenSpec.upto Rows.meanMoreSpec) false w args)
  (((Rows.OpenSpec.upto Rows.meanMoreSpec).at F).post enc Tryz.prog f7 false true false false):=by
 refine Q0 (C:=Tryz.checked) (s:=Rows.OpenSpec.upto Rows.meanMoreSpec) (k:=Rows.uptoSmall) rfl (X:=λw _=>laidMetH Tryz.prog Rows.meanMoreUptoRow.laid w) (λ_ _ _ hh h=>h.of_heap hh) Tryz.own started (by kernel_rfl) Tryz.func7
  (DL (enc:=enc) (C:=Tryz.checked) (os:=os) (s:=Rows.OpenSpec.upto Rows.meanMoreSpec) (k:=Rows.uptoSmall) rfl (X:=λw _=>laidMetH Tryz.prog Rows.meanMoreUptoRow.laid w) false (World.doorLaid Tryz.prog 33 os)
   #[.agg #[.string .empty,.slice none 0 0,.slice none 0 0],.slice none 0 0,.int .i64 0,.int .i64 0] 8 rfl (World.shaped_of_RefB (by kernel_rfl) (by kernel_rfl)) (by kernel_rfl) (by kernel_rfl) (by kernel_rfl) (Xq os _)) ?_
 intro W base args E gs before T U V I Y;obtain⟨m,hm⟩:=ajV Y;letI:Inhabited bB:=⟨m⟩
 have AG:=Q1 V;refine Gb (X:=ctx) agR (s:=Rows.meanMoreSpec) (L:=[25,9,22,23,64,3,4,2,119,114,112,115,26,116,117]) (tb:=4) (by kernel_rfl) Tryz.laidOut (by kernel_rfl) (by kernel_rfl) Tryz.underlying4 rfl ?_ T U (aby I m hm) ?_
 ·intro E Z;match E,Z with
  |[d1,d2,d3,d4],_=>rfl
 ·intro xs q J AH;have y:ee xs<=1048576:=by
   have:fG E<=fG (E++gs):=DM E gs;omega
  match xs,q with
  |[A',A0,A1,A2],_=>
   obtain⟨n,M⟩:=J 0 25 A' (by kernel_rfl) rfl;obtain⟨p,rfl,A3⟩:=WJ M;obtain⟨AI,A4⟩:=J 1 26 A0 (by kernel_rfl) rfl;obtain⟨C,rfl,A5⟩:=Dk A4;have A6:∀c∈C,aG c:=λc A7=>by have:=abN.1 A5 c A7;unfold xl at this;unfold aG;simpa using this
   obtain⟨AJ,A8⟩:=J 2 3 A1 (by kernel_rfl) rfl;obtain⟨A9,rfl,AK⟩:=jr Tryz.underlying3 A8;obtain⟨AL,AA⟩:=J 3 3 A2 (by kernel_rfl) rfl;obtain⟨AB,rfl,AM⟩:=jr Tryz.underlying3 AA;exact Jz C A9 AB A3 (by simp only[uc,ee]at y⊢;omega) A6
set_option maxHeartbeats 40000000 in
theorem DO:joinedFacts Tryz.pinned.checked.prog 7 f7 (Rows.OpenSpec.upto Rows.meanMoreSpec).bare Rows.meanMoreUptoRow=true:=by
 unfold joinedFacts;simp only[Ds];repeat' apply And.intro
 all_goals (as_aux_lemma=>kernel_rfl)
theorem ED:Rows.MeanMoreUptoSaid:=
 OpenClaim.holds_of_cond 7 f7 rfl rfl rfl rfl rfl rfl rfl ⟨rfl,rfl,rfl,rfl,rfl⟩ rfl rfl rfl rfl rfl (by as_aux_lemma=>kernel_rfl) Tryz.func7 DO
  (acw (by as_aux_lemma=>kernel_rfl)) (by unfold Func.isWrapper;first|(rw[aal (by decide+kernel)];kernel_rfl)|(rw[aac (by decide+kernel)];exact⟨rfl,rfl⟩))
  (λos started H enc _ F=>DN os started H enc F)
theorem meanMore_card_holds:Rows.MeanMoreUptoCardSaid:=
 Claim7.holds_tied_plain_at .later [] _ _ _ _
  ED (λ_ h=>by cases h) (by as_aux_lemma=>kernel_rfl) (λ_ h=>by cases h) meanMoreUpto_row_tie rfl ⟨rfl,rfl⟩ (by as_aux_lemma=>kernel_rfl) rfl
  (λf fn AC AD=>by
   obtain rfl:f=7:=Option.some.inj ((show Tryz.prog.funcNamed "servitor/servitorlaw23.MeanMore" =some 7 by kernel_rfl).symm.trans AC) |>.symm;obtain rfl:fn=f7:=(Option.some.inj (Tryz.func7.symm.trans AD)).symm;exact⟨by as_aux_lemma=>kernel_rfl,λj t A=>by
    rw[Tryz.params7]at A;match j,A with
    |0,A=>(obtain rfl:t=25:=by simpa using A.symm);exact (show Tryz.prog.wantsStandIn 25=false by kernel_rfl)
    |1,A=>(obtain rfl:t=26:=by simpa using A.symm);exact (show Tryz.prog.wantsStandIn 26=false by kernel_rfl)
    |2,A=>(obtain rfl:t=3:=by simpa using A.symm);exact (show Tryz.prog.wantsStandIn 3=false by kernel_rfl)
    |3,A=>(obtain rfl:t=3:=by simpa using A.symm);exact (show Tryz.prog.wantsStandIn 3=false by kernel_rfl)
    |j+4,A=>simp at A⟩)
  (by as_aux_lemma=>kernel_rfl)
#print axioms meanMore_card_holds
end Go.Proofs.YtccmboenpbjhnaaGreatDoor
