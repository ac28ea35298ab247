/-
  The tied card of CheckTakes in its second form is proved: where the program that is given holds at most 1048576 values and letters, the law returns true and leaves its argument as it was. Conditions: those of the row itself (the listed package variables start as the program lays them; the bound).
-/
import Derived.Test.YtdjlcobfpppbbaaGreatDoorP7
import Derived.Test.YtdjlcobfpppbbaaGreatDoorRows
import Derived.Test.YtdjlcobfpppbbaaGreatDoorCards
import Derived.Test.YtdjlcobfpppbbaaGreatDoorTie
import Derived.JoinedOf
import Derived.LaidMore
import Derived.LaidHandle
import Derived.SevenTiedAt
set_option linter.all false
namespace Go.Proofs.YtdjlcobfpppbbaaGreatDoor
open Go Go.Am
set_option maxRecDepth 100000
theorem Tryz.own:ownKnob Tryz.prog.godebug=none:=by kernel_rfl
theorem Tryz.laidOut:laidOutB Tryz.prog=true:=by kernel_rfl
theorem acy [Inhabited b6]:jF ctx:=jF.of (by kernel_rfl) Xb
theorem alL (os:Os) (args:Array Value):laidMetH Tryz.prog Rows.checkTakesUptoRow.laid ((World.doorLaid Tryz.prog 33 os).forCall (fun _ _=>0) ⟨#[],args,[]⟩).memory:=
 laidMetH_of_parts3 (fuel:=8) (laidMet_of_run' 8 (by kernel_rfl) (by kernel_rfl)) (by kernel_rfl) (by kernel_rfl)
mutual
theorem Xc {H:Type}:∀d:DataW H,ig d≤Rows.uptoBulk d
 | .lit l=>by cases l<;>simp[ig,Rows.uptoBulk]
 | .nil=>by simp[ig,Rows.uptoBulk]
 | .ptr d=>by simp[ig,Rows.uptoBulk]
 | .slice e s=>by
  have h:=vI e;simp only[ig,Rows.uptoBulk];omega
 | .agg p=>by
  have h:=vI p;simp only[ig,Rows.uptoBulk];omega
 | .iface t d=>by simp[ig,Rows.uptoBulk]
 | .map es=>by simp[ig,Rows.uptoBulk]
 | .held h=>by simp[ig,Rows.uptoBulk]
theorem vI {H:Type}:∀l:List (DataW H),gk l≤Rows.uptoBulkAll l
 |[]=>Nat.le_refl _
 |d::r=>by
  have h1:=Xc d;have h2:=vI r;simp only[gk,Rows.uptoBulkAll];omega
end
theorem Ce {H:Type}:∀a b:List (DataW H),gk a≤gk (a++b)
 |[],b=>Nat.zero_le _
 |x::a,b=>by
  have:=Ce a b;simp only[List.cons_append,gk];omega
theorem NS {H:Type} {l:List (DataW H)} (hk:Rows.uptoSmall H l=true):gk l≤1048576:=by
 have h:Rows.uptoBulkAll l≤1048576:=of_decide_eq_true hk;have:=vI l;omega
theorem Ua:("strings.asciiSpace",DataW.agg (Cw.map fun z=>.lit (.int .u8 z)))∈(Rows.checkTakesUptoRow.laid:List (String×DataW Unit)):=by
 have h:(Rows.checkTakesUptoRow.laid:List (String×DataW Unit))=[("unicode.White_Space",Rows.laid_unicode_White_Space),("strings.asciiSpace",DataW.agg (Cw.map fun z=>.lit (.int .u8 z)))]:=by kernel_rfl
 rw[h];exact List.mem_cons_of_mem _ (List.mem_singleton.2 rfl)
theorem afV {W:World} (h:W.ShapedOpen Tryz.prog):∃m,W.cell? ⟨2,0,none⟩=some (.int .i64 m):=
 cell_of_shapedOpen_int (t:=3) (zero:=#[.int .i64 0]) h (of_decide_eq_true (by kernel_rfl)) (by kernel_rfl) rfl (by kernel_rfl) (by kernel_rfl) (by kernel_rfl)
theorem Xd {W:World} (hL:laidMetH Tryz.prog Rows.checkTakesUptoRow.laid W) (m:Int) (hm:W.cell? ⟨2,0,none⟩=some (.int .i64 m)):eI W (fun _=>False) (@ctx ⟨m⟩).gl:=by
 rw[MakeChecks.laidMetH_plain _ _ _ (by kernel_rfl)]at hL;intro x hx;have nr:x∈[((0:Nat),D.agg (Cw.map fun z=>.int .u8 z)),(2,.int .i64 m)]:=hx;simp only[List.mem_cons,List.not_mem_nil,or_false]at nr;rcases nr with rfl|rfl
 ·obtain⟨a,b⟩:=HX (name:= "strings.asciiSpace") (n:=256) (e:=5) (t:=274) (g:=0) (k:=.u8) (zs:=Cw) hL Ua (by kernel_rfl) (by kernel_rfl) (by kernel_rfl) (by kernel_rfl) (by kernel_rfl) (by decide) (by kernel_rfl);exact⟨a,id,b⟩
 ·refine⟨⟨(Aj hm).1,fun _ h=>by cases h⟩,id,.int .i64 m,.int _ _,fun i c hi=>?_⟩;match i,hi with
  |0,hi=>simp[Value.cells]at hi;subst hi;exact hm
  |i+1,hi=>simp[Value.cells]at hi
theorem yK (os:Os) (started:os.Started) (H:Type) (enc:TypeId×Value→H) (F:Stop.Interp):
 ReturnsInHanded {} Tryz.checked os 3 .any (fun w args=>((Rows.OpenSpec.upto Rows.checkTakesSpec).pre enc Tryz.prog Tryz.f3 [] false w args∧laidMetH Tryz.prog Rows.checkTakesUptoRow.laid w)∧sizedMet enc Tryz.prog Tryz.f3 (Rows.OpenSpec.upto Rows.checkTakesSpec) false w args)
  (((Rows.OpenSpec.upto Rows.checkTakesSpec).at F).post enc Tryz.prog Tryz.f3 false true false false):=by
 refine NR (C:=Tryz.checked) (s:=Rows.OpenSpec.upto Rows.checkTakesSpec) (k:=Rows.uptoSmall) rfl (X:=fun w _=>laidMetH Tryz.prog Rows.checkTakesUptoRow.laid w) (fun _ _ _ hh h=>h.of_heap hh) Tryz.own started (by kernel_rfl) Tryz.func3
  (Cd (enc:=enc) (C:=Tryz.checked) (os:=os) (s:=Rows.OpenSpec.upto Rows.checkTakesSpec) (k:=Rows.uptoSmall) rfl (X:=fun w _=>laidMetH Tryz.prog Rows.checkTakesUptoRow.laid w) false (World.doorLaid Tryz.prog 33 os)
   #[.agg #[.string .empty, .slice none 0 0, .slice none 0 0]] 8 rfl (World.shaped_of_RefB (by kernel_rfl) (by kernel_rfl)) (by kernel_rfl) (by kernel_rfl) (by kernel_rfl) (alL os _)) ?_
 intro W base args ds gs before cB hW nw hL pU;obtain⟨m,hm⟩:=afV pU;letI:Inhabited b6:=⟨m⟩
 have arF:=NS nw;refine Ei (X:=ctx) acy (s:=Rows.checkTakesSpec) (L:=[25,9,22,23,71,3,4,2,141,136,134,137,45,138,139]) (tb:=4) (by kernel_rfl) Tryz.laidOut (by kernel_rfl) (by kernel_rfl) Tryz.underlying4 rfl ?_ cB hW (Xd hL m hm) ?_
 ·intro ds ll;match ds,ll with
  |[d1],_=>rfl
 ·intro xs mO mu ate;have GF:bC xs≤1048576:=by
   have:gk ds≤gk (ds++gs):=Ce ds gs;omega
  match xs,mO with
  |[x1],_=>
   obtain⟨n,hx⟩:=mu 0 25 x1 (by kernel_rfl) rfl;obtain⟨p,rfl,hl⟩:=Tn hx;exact CS hl (by simp only[qi,bC]at GF⊢;omega)
set_option maxHeartbeats 40000000 in
theorem yL:joinedFacts Tryz.pinned.checked.prog 3 Tryz.f3 (Rows.OpenSpec.upto Rows.checkTakesSpec).bare Rows.checkTakesUptoRow=true:=by
 unfold joinedFacts;simp only[Bool.and_eq_true];repeat' apply And.intro
 all_goals (as_aux_lemma=>kernel_rfl)
theorem AH:Rows.CheckTakesUptoSaid:=
 OpenClaim.holds_of_cond 3 Tryz.f3 rfl rfl rfl rfl rfl rfl rfl ⟨rfl,rfl,rfl,rfl,rfl⟩ rfl rfl rfl rfl rfl (by as_aux_lemma=>kernel_rfl) Tryz.func3 yL
  (of_decide_eq_true (by as_aux_lemma=>kernel_rfl)) (by unfold Func.isWrapper;first|(rw[if_pos (by decide+kernel)];kernel_rfl)|(rw[if_neg (by decide+kernel)];exact⟨rfl,rfl⟩))
  (fun os started H enc _ F=>yK os started H enc F)
theorem checkTakes_card_holds:Rows.CheckTakesUptoCardSaid:=
 Claim7.holds_tied_plain_at .later [] _ _ _ _
  AH (fun _ h=>by cases h) (by as_aux_lemma=>kernel_rfl) (fun _ h=>by cases h) checkTakesUpto_row_tie rfl ⟨rfl,rfl⟩ (by as_aux_lemma=>kernel_rfl) rfl
  (fun f fn hf Ok=>by
   obtain rfl:f=3:=Option.some.inj ((show Tryz.prog.funcNamed "servitor/servitorlaw25.CheckTakes" =some 3 by kernel_rfl).symm.trans hf) |>.symm;obtain rfl:fn=Tryz.f3:=(Option.some.inj (Tryz.func3.symm.trans Ok)).symm;exact⟨by as_aux_lemma=>kernel_rfl,fun j t ht=>by
    rw[Tryz.params3]at ht;match j,ht with
    |0,ht=>(obtain rfl:t=25:=by simpa using ht.symm);exact (show Tryz.prog.wantsStandIn 25=false by kernel_rfl)
    |j+1,ht=>simp at ht⟩)
  (by as_aux_lemma=>kernel_rfl)
#print axioms checkTakes_card_holds
end Go.Proofs.YtdjlcobfpppbbaaGreatDoor
