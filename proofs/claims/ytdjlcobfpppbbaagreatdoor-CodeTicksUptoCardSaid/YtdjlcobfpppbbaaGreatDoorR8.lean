/-
  The tied card of CodeTicks in its second form is proved: where the program that is given holds at most 1048576 values and letters, the law returns true and leaves its argument as it was. Conditions: those of the row itself (the listed package variables start as the program lays them; the bound).
-/
import Derived.Test.YtdjlcobfpppbbaaGreatDoorR7
import Derived.Test.YtdjlcobfpppbbaaGreatDoorRows
import Derived.Test.YtdjlcobfpppbbaaGreatDoorCards
import Derived.Test.YtdjlcobfpppbbaaGreatDoorTie
import Derived.JoinedOf
import Derived.LaidMore
import Derived.LaidHandle
import Derived.SevenTiedAt
set_option linter.all false
namespace Go.Proofs.YtdjlcobfpppbbaaGreatDoor
open Go Go.Am
set_option maxRecDepth 100000
theorem Tryz.own:ownKnob Tryz.prog.godebug=none:=by kernel_rfl
theorem Tryz.laidOut:laidOutB Tryz.prog=true:=by kernel_rfl
theorem afR[Inhabited bX]:jC ctx:=jC.of (by kernel_rfl) aaF
theorem apB(os:Os)(args:Array Value):laidMetH Tryz.prog Rows.codeTicksUptoRow.laid ((World.doorLaid Tryz.prog 33 os).forCall (fun _ _=>0) ⟨#[],args,[]⟩).memory:=
 laidMetH_of_parts3 (fuel:=8) (laidMet_of_run' 8 (by kernel_rfl) (by kernel_rfl)) (by kernel_rfl) (by kernel_rfl)
mutual
theorem aaG{H:Type}:∀d:DataW H,ik d≤Rows.uptoBulk d
 | .lit l=>by cases l<;>simp[ik,Rows.uptoBulk]
 | .nil=>by simp[ik,Rows.uptoBulk]
 | .ptr d=>by simp[ik,Rows.uptoBulk]
 | .slice e s=>by
  have h:=wJ e;simp only[ik,Rows.uptoBulk];omega
 | .agg p=>by
  have h:=wJ p;simp only[ik,Rows.uptoBulk];omega
 | .iface t d=>by simp[ik,Rows.uptoBulk]
 | .map es=>by simp[ik,Rows.uptoBulk]
 | .held h=>by simp[ik,Rows.uptoBulk]
theorem wJ{H:Type}:∀l:List (DataW H),gk l≤Rows.uptoBulkAll l
 |[]=>Nat.le_refl _
 |d::r=>by
  have h1:=aaG d;have h2:=wJ r;simp only[gk,Rows.uptoBulkAll];omega
end
theorem Db{H:Type}:∀a b:List (DataW H),gk a≤gk (a++b)
 |[],b=>Nat.zero_le _
 |x::a,b=>by
  have:=Db a b;simp only[List.cons_append,gk];omega
theorem Qw{H:Type}{l:List (DataW H)}(hk:Rows.uptoSmall H l=true):gk l≤1048576:=by
 have h:Rows.uptoBulkAll l≤1048576:=of_decide_eq_true hk;have:=wJ l;omega
theorem Wp:("strings.asciiSpace",DataW.agg (Dv.map fun z=>.lit (.int .u8 z)))∈(Rows.codeTicksUptoRow.laid:List (String×DataW Unit)):=by
 have h:(Rows.codeTicksUptoRow.laid:List (String×DataW Unit))=[("unicode.White_Space",Rows.laid_unicode_White_Space),("strings.asciiSpace",DataW.agg (Dv.map fun z=>.lit (.int .u8 z)))]:=by kernel_rfl
 rw[h];exact List.mem_cons_of_mem _ (List.mem_singleton.2 rfl)
theorem ai9{W:World}(h:W.ShapedOpen Tryz.prog):∃m,W.cell? ⟨2,0,none⟩=some (.int .i64 m):=
 cell_of_shapedOpen_int (t:=3) (zero:=#[.int .i64 0]) h (of_decide_eq_true (by kernel_rfl)) (by kernel_rfl) rfl (by kernel_rfl) (by kernel_rfl) (by kernel_rfl)
theorem aaH{W:World}(hL:laidMetH Tryz.prog Rows.codeTicksUptoRow.laid W)(m:Int)(hm:W.cell? ⟨2,0,none⟩=some (.int .i64 m)):eK W (fun _=>False) (@ctx ⟨m⟩).gl:=by
 rw[MakeChecks.laidMetH_plain _ _ _ (by kernel_rfl)]at hL;intro x hx;have nB:x∈[((0:Nat),D.agg (Dv.map fun z=>.int .u8 z)),(2,.int .i64 m)]:=hx;simp only[List.mem_cons,List.not_mem_nil,or_false]at nB;rcases nB with rfl|rfl
 ·obtain⟨a,b⟩:=Je (name:= "strings.asciiSpace") (n:=256) (e:=5) (t:=274) (g:=0) (k:=.u8) (zs:=Dv) hL Wp (by kernel_rfl) (by kernel_rfl) (by kernel_rfl) (by kernel_rfl) (by kernel_rfl) (by decide) (by kernel_rfl);exact⟨a,id,b⟩
 ·refine⟨⟨(A4 hm).1,fun _ h=>by cases h⟩,id,.int .i64 m,.int _ _,fun i c hi=>?_⟩;match i,hi with
  |0,hi=>simp[Value.cells]at hi;subst hi;exact hm
  |i+1,hi=>simp[Value.cells]at hi
theorem Bt(os:Os)(started:os.Started)(H:Type)(enc:TypeId×Value→H)(F:Stop.Interp):
 ReturnsInHanded {} Tryz.checked os 10 .any (fun w args=>((Rows.OpenSpec.upto Rows.codeTicksSpec).pre enc Tryz.prog Tryz.f10 [] false w args∧laidMetH Tryz.prog Rows.codeTicksUptoRow.laid w)∧sizedMet enc Tryz.prog Tryz.f10 (Rows.OpenSpec.upto Rows.codeTicksSpec) false w args)
  (((Rows.OpenSpec.upto Rows.codeTicksSpec).at F).post enc Tryz.prog Tryz.f10 false true false false):=by
 refine Qv (C:=Tryz.checked) (s:=Rows.OpenSpec.upto Rows.codeTicksSpec) (k:=Rows.uptoSmall) rfl (X:=fun w _=>laidMetH Tryz.prog Rows.codeTicksUptoRow.laid w) (fun _ _ _ hh h=>h.of_heap hh) Tryz.own started (by kernel_rfl) Tryz.func10
  (Da (enc:=enc) (C:=Tryz.checked) (os:=os) (s:=Rows.OpenSpec.upto Rows.codeTicksSpec) (k:=Rows.uptoSmall) rfl (X:=fun w _=>laidMetH Tryz.prog Rows.codeTicksUptoRow.laid w) false (World.doorLaid Tryz.prog 33 os)
   #[.agg #[.string .empty, .slice none 0 0, .slice none 0 0]] 8 rfl (World.shaped_of_RefB (by kernel_rfl) (by kernel_rfl)) (by kernel_rfl) (by kernel_rfl) (by kernel_rfl) (apB os _)) ?_
 intro W base args ds gs before cm hW nE hL rS;obtain⟨m,hm⟩:=ai9 rS;letI:Inhabited bX:=⟨m⟩
 have av9:=Qw nE;refine Fm (X:=ctx) afR (s:=Rows.codeTicksSpec) (L:=[25,9,22,23,71,3,4,2,141,136,134,137,45,138,139]) (tb:=4) (by kernel_rfl) Tryz.laidOut (by kernel_rfl) (by kernel_rfl) Tryz.underlying4 rfl ?_ cm hW (aaH hL m hm) ?_
 ·intro ds jq;match ds,jq with
  |[d1],_=>rfl
 ·intro xs mU mz ayF;have HO:bE xs≤1048576:=by
   have:gk ds≤gk (ds++gs):=Db ds gs;omega
  match xs,mU with
  |[x1],_=>
   obtain⟨n,hx⟩:=mz 0 25 x1 (by kernel_rfl) rfl;obtain⟨p,rfl,hl⟩:=Wi hx;exact Fp hl (by simp only[mc,bE]at HO⊢;omega) afr
set_option maxHeartbeats 40000000 in
theorem Bu:joinedFacts Tryz.pinned.checked.prog 10 Tryz.f10 (Rows.OpenSpec.upto Rows.codeTicksSpec).bare Rows.codeTicksUptoRow=true:=by
 unfold joinedFacts;simp only[Bool.and_eq_true];repeat' apply And.intro
 all_goals (as_aux_lemma=>kernel_rfl)
theorem Dc:Rows.CodeTicksUptoSaid:=
 OpenClaim.holds_of_cond 10 Tryz.f10 rfl rfl rfl rfl rfl rfl rfl ⟨rfl,rfl,rfl,rfl,rfl⟩ rfl rfl rfl rfl rfl (by as_aux_lemma=>kernel_rfl) Tryz.func10 Bu
  (of_decide_eq_true (by as_aux_lemma=>kernel_rfl)) (by unfold Func.isWrapper;first|(rw[if_pos (by decide+kernel)];kernel_rfl)|(rw[if_neg (by decide+kernel)];exact⟨rfl,rfl⟩))
  (fun os started H enc _ F=>Bt os started H enc F)
theorem codeTicks_card_holds:Rows.CodeTicksUptoCardSaid:=
 Claim7.holds_tied_plain_at .later [] _ _ _ _
  Dc (fun _ h=>by cases h) (by as_aux_lemma=>kernel_rfl) (fun _ h=>by cases h) codeTicksUpto_row_tie rfl ⟨rfl,rfl⟩ (by as_aux_lemma=>kernel_rfl) rfl
  (fun f fn hf QX=>by
   obtain rfl:f=10:=Option.some.inj ((show Tryz.prog.funcNamed "servitor/servitorlaw24.CodeTicks" =some 10 by kernel_rfl).symm.trans hf) |>.symm;obtain rfl:fn=Tryz.f10:=(Option.some.inj (Tryz.func10.symm.trans QX)).symm;exact⟨by as_aux_lemma=>kernel_rfl,fun j t ht=>by
    rw[Tryz.params10]at ht;match j,ht with
    |0,ht=>(obtain rfl:t=25:=by simpa using ht.symm);exact (show Tryz.prog.wantsStandIn 25=false by kernel_rfl)
    |j+1,ht=>simp at ht⟩)
  (by as_aux_lemma=>kernel_rfl)
#print axioms codeTicks_card_holds
end Go.Proofs.YtdjlcobfpppbbaaGreatDoor
