/-
  The tied card of CodeFolds in its second form is proved: where the program that is given holds at most 1048576 values and letters, the law returns true and leaves its argument as it was. Conditions: those of the row itself (the listed package variables start as the program lays them; the bound).
-/
import Derived.Test.YtdjlcobfpppbbaaGreatDoorQ7
import Derived.Test.YtdjlcobfpppbbaaGreatDoorRows
import Derived.Test.YtdjlcobfpppbbaaGreatDoorCards
import Derived.Test.YtdjlcobfpppbbaaGreatDoorTie
import Derived.JoinedOf
import Derived.LaidMore
import Derived.LaidHandle
import Derived.SevenTiedAt
set_option linter.all false
namespace Go.Proofs.YtdjlcobfpppbbaaGreatDoor
open Go Go.Am
set_option maxRecDepth 100000
theorem Tryz.own:ownKnob Tryz.prog.godebug=none:=by kernel_rfl
theorem Tryz.laidOut:laidOutB Tryz.prog=true:=by kernel_rfl
theorem afw[Inhabited bV]:jy ctx:=jy.of (by kernel_rfl) aam
theorem apf(os:Os)(args:Array Value):laidMetH Tryz.prog Rows.codeFoldsUptoRow.laid ((World.doorLaid Tryz.prog 33 os).forCall (fun _ _=>0) ⟨#[],args,[]⟩).memory:=
 laidMetH_of_parts3 (fuel:=8) (laidMet_of_run' 8 (by kernel_rfl) (by kernel_rfl)) (by kernel_rfl) (by kernel_rfl)
mutual
theorem aan{H:Type}:∀d:DataW H,hY d≤Rows.uptoBulk d
 | .lit l=>by cases l<;>simp[hY,Rows.uptoBulk]
 | .nil=>by simp[hY,Rows.uptoBulk]
 | .ptr d=>by simp[hY,Rows.uptoBulk]
 | .slice e s=>by
  have h:=wA e;simp only[hY,Rows.uptoBulk];omega
 | .agg p=>by
  have h:=wA p;simp only[hY,Rows.uptoBulk];omega
 | .iface t d=>by simp[hY,Rows.uptoBulk]
 | .map es=>by simp[hY,Rows.uptoBulk]
 | .held h=>by simp[hY,Rows.uptoBulk]
theorem wA{H:Type}:∀l:List (DataW H),gd l≤Rows.uptoBulkAll l
 |[]=>Nat.le_refl _
 |d::r=>by
  have h1:=aan d;have h2:=wA r;simp only[gd,Rows.uptoBulkAll];omega
end
theorem CX{H:Type}:∀a b:List (DataW H),gd a≤gd (a++b)
 |[],b=>Nat.zero_le _
 |x::a,b=>by
  have:=CX a b;simp only[List.cons_append,gd];omega
theorem Qf{H:Type}{l:List (DataW H)}(hk:Rows.uptoSmall H l=true):gd l≤1048576:=by
 have h:Rows.uptoBulkAll l≤1048576:=of_decide_eq_true hk;have:=wA l;omega
theorem V8:("strings.asciiSpace",DataW.agg (Dh.map fun z=>.lit (.int .u8 z)))∈(Rows.codeFoldsUptoRow.laid:List (String×DataW Unit)):=by
 have h:(Rows.codeFoldsUptoRow.laid:List (String×DataW Unit))=[("unicode.White_Space",Rows.laid_unicode_White_Space),("strings.asciiSpace",DataW.agg (Dh.map fun z=>.lit (.int .u8 z)))]:=by kernel_rfl
 rw[h];exact List.mem_cons_of_mem _ (List.mem_singleton.2 rfl)
theorem aiM{W:World}(h:W.ShapedOpen Tryz.prog):∃m,W.cell? ⟨2,0,none⟩=some (.int .i64 m):=
 cell_of_shapedOpen_int (t:=3) (zero:=#[.int .i64 0]) h (of_decide_eq_true (by kernel_rfl)) (by kernel_rfl) rfl (by kernel_rfl) (by kernel_rfl) (by kernel_rfl)
theorem aao{W:World}(hL:laidMetH Tryz.prog Rows.codeFoldsUptoRow.laid W)(m:Int)(hm:W.cell? ⟨2,0,none⟩=some (.int .i64 m)):eF W (fun _=>False) (@ctx ⟨m⟩).gl:=by
 rw[MakeChecks.laidMetH_plain _ _ _ (by kernel_rfl)]at hL;intro x hx;have nu:x∈[((0:Nat),D.agg (Dh.map fun z=>.int .u8 z)),(2,.int .i64 m)]:=hx;simp only[List.mem_cons,List.not_mem_nil,or_false]at nu;rcases nu with rfl|rfl
 ·obtain⟨a,b⟩:=IZ (name:= "strings.asciiSpace") (n:=256) (e:=5) (t:=274) (g:=0) (k:=.u8) (zs:=Dh) hL V8 (by kernel_rfl) (by kernel_rfl) (by kernel_rfl) (by kernel_rfl) (by kernel_rfl) (by decide) (by kernel_rfl);exact⟨a,id,b⟩
 ·refine⟨⟨(AP hm).1,fun _ h=>by cases h⟩,id,.int .i64 m,.int _ _,fun i c hi=>?_⟩;match i,hi with
  |0,hi=>simp[Value.cells]at hi;subst hi;exact hm
  |i+1,hi=>simp[Value.cells]at hi
theorem Bh(os:Os)(started:os.Started)(H:Type)(enc:TypeId×Value→H)(F:Stop.Interp):
 ReturnsInHanded {} Tryz.checked os 9 .any (fun w args=>((Rows.OpenSpec.upto Rows.codeFoldsSpec).pre enc Tryz.prog Tryz.f9 [] false w args∧laidMetH Tryz.prog Rows.codeFoldsUptoRow.laid w)∧sizedMet enc Tryz.prog Tryz.f9 (Rows.OpenSpec.upto Rows.codeFoldsSpec) false w args)
  (((Rows.OpenSpec.upto Rows.codeFoldsSpec).at F).post enc Tryz.prog Tryz.f9 false true false false):=by
 refine Qe (C:=Tryz.checked) (s:=Rows.OpenSpec.upto Rows.codeFoldsSpec) (k:=Rows.uptoSmall) rfl (X:=fun w _=>laidMetH Tryz.prog Rows.codeFoldsUptoRow.laid w) (fun _ _ _ hh h=>h.of_heap hh) Tryz.own started (by kernel_rfl) Tryz.func9
  (CW (enc:=enc) (C:=Tryz.checked) (os:=os) (s:=Rows.OpenSpec.upto Rows.codeFoldsSpec) (k:=Rows.uptoSmall) rfl (X:=fun w _=>laidMetH Tryz.prog Rows.codeFoldsUptoRow.laid w) false (World.doorLaid Tryz.prog 33 os)
   #[.agg #[.string .empty, .slice none 0 0, .slice none 0 0]] 8 rfl (World.shaped_of_RefB (by kernel_rfl) (by kernel_rfl)) (by kernel_rfl) (by kernel_rfl) (by kernel_rfl) (apf os _)) ?_
 intro W base args ds gs before cA hW ny hL rH;obtain⟨m,hm⟩:=aiM rH;letI:Inhabited bV:=⟨m⟩
 have avM:=Qf ny;refine Fb (X:=ctx) afw (s:=Rows.codeFoldsSpec) (L:=[25,9,22,23,71,3,4,2,141,136,134,137,45,138,139]) (tb:=4) (by kernel_rfl) Tryz.laidOut (by kernel_rfl) (by kernel_rfl) Tryz.underlying4 rfl ?_ cA hW (aao hL m hm) ?_
 ·intro ds jk;match ds,jk with
  |[d1],_=>rfl
 ·intro xs mK mm ayi;have HF:bG xs≤1048576:=by
   have:gd ds≤gd (ds++gs):=CX ds gs;omega
  match xs,mK with
  |[x1],_=>
   obtain⟨n,hx⟩:=mm 0 25 x1 (by kernel_rfl) rfl;obtain⟨p,rfl,hl⟩:=V0 hx;exact Fc hl (by simp only[mS,bG]at HF⊢;omega) ae7
set_option maxHeartbeats 40000000 in
theorem Bi:joinedFacts Tryz.pinned.checked.prog 9 Tryz.f9 (Rows.OpenSpec.upto Rows.codeFoldsSpec).bare Rows.codeFoldsUptoRow=true:=by
 unfold joinedFacts;simp only[Bool.and_eq_true];repeat' apply And.intro
 all_goals (as_aux_lemma=>kernel_rfl)
theorem CY:Rows.CodeFoldsUptoSaid:=
 OpenClaim.holds_of_cond 9 Tryz.f9 rfl rfl rfl rfl rfl rfl rfl ⟨rfl,rfl,rfl,rfl,rfl⟩ rfl rfl rfl rfl rfl (by as_aux_lemma=>kernel_rfl) Tryz.func9 Bi
  (of_decide_eq_true (by as_aux_lemma=>kernel_rfl)) (by unfold Func.isWrapper;first|(rw[if_pos (by decide+kernel)];kernel_rfl)|(rw[if_neg (by decide+kernel)];exact⟨rfl,rfl⟩))
  (fun os started H enc _ F=>Bh os started H enc F)
theorem codeFolds_card_holds:Rows.CodeFoldsUptoCardSaid:=
 Claim7.holds_tied_plain_at .later [] _ _ _ _
  CY (fun _ h=>by cases h) (by as_aux_lemma=>kernel_rfl) (fun _ h=>by cases h) codeFoldsUpto_row_tie rfl ⟨rfl,rfl⟩ (by as_aux_lemma=>kernel_rfl) rfl
  (fun f fn hf QG=>by
   obtain rfl:f=9:=Option.some.inj ((show Tryz.prog.funcNamed "servitor/servitorlaw24.CodeFolds" =some 9 by kernel_rfl).symm.trans hf) |>.symm;obtain rfl:fn=Tryz.f9:=(Option.some.inj (Tryz.func9.symm.trans QG)).symm;exact⟨by as_aux_lemma=>kernel_rfl,fun j t ht=>by
    rw[Tryz.params9]at ht;match j,ht with
    |0,ht=>(obtain rfl:t=25:=by simpa using ht.symm);exact (show Tryz.prog.wantsStandIn 25=false by kernel_rfl)
    |j+1,ht=>simp at ht⟩)
  (by as_aux_lemma=>kernel_rfl)
#print axioms codeFolds_card_holds
end Go.Proofs.YtdjlcobfpppbbaaGreatDoor
