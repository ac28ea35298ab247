/-
  The tied card of VmSame in its second form is proved: where the program and what else is given hold at most 1048576 values and letters, the law returns true and leaves its arguments as they were. Conditions: those of the row itself (the listed package variables start as the program lays them; the bound).
-/
import Derived.Test.YtlmkmdmbfmpfgaaGreatDoorS8
import Derived.Test.YtlmkmdmbfmpfgaaGreatDoorRows
import Derived.Test.YtlmkmdmbfmpfgaaGreatDoorCards
import Derived.Test.YtlmkmdmbfmpfgaaGreatDoorTie
import Derived.JoinedOf
import Derived.LaidMore
import Derived.LaidHandle
import Derived.SevenTiedAt
set_option linter.all false
namespace Go.Proofs.YtlmkmdmbfmpfgaaGreatDoor
open Go Go.Am Go.Proofs.Tryz
set_option maxRecDepth 100000
def Tryz.own:ownKnob Tryz.prog.godebug=none:=by kernel_rfl
def Tryz.laidOut:laidOutB Tryz.prog=true:=by kernel_rfl
def amW[Inhabited bO]:m8 ctx:=m8.of (by kernel_rfl) agF
def acV(os:Os)(args:Array Value):laidMetH Tryz.prog Rows.vmSameUptoRow.laid ((World.doorLaid Tryz.prog 33 os).forCall (λ_ _=>0) ⟨#[],args,[]⟩).memory:=
 laidMetH_of_parts3 (fuel:=8) (laidMet_of_run' 8 (by kernel_rfl) (by kernel_rfl)) (by kernel_rfl) (by kernel_rfl)
mutual
def agG{H:Type}:∀d:DataW H,kF d<=Rows.uptoBulk d
 | .lit l=>by cases l<;>simp[kF,Rows.uptoBulk]
 | .nil=>by simp[kF,Rows.uptoBulk]
 | .ptr d=>by simp[kF,Rows.uptoBulk]
 | .slice e s=>by
  have h:=Dw e;simp only[kF,Rows.uptoBulk];omega
 | .agg p=>by
  have h:=Dw p;simp only[kF,Rows.uptoBulk];omega
 | .iface t d=>by simp[kF,Rows.uptoBulk]
 | .map es=>by simp[kF,Rows.uptoBulk]
 | .held h=>by simp[kF,Rows.uptoBulk]
def Dw{H:Type}:∀l:List (DataW H),jy l<=Rows.uptoBulkAll l
 |[]=>aar _
 |d::r=>by
  have AF:=agG d;have AG:=Dw r;simp only[jy,Rows.uptoBulkAll];omega
end
def Kq{H:Type}:∀a b:List (DataW H),jy a<=jy (a++b)
 |[],b=>apR _
 |x::a,b=>by
  have:=Kq a b;simp only[ahy,jy];omega
def WJ{H:Type}{l:List (DataW H)}(V:Rows.uptoSmall H l=true):jy l<=1048576:=by
 have h:Rows.uptoBulkAll l<=1048576:=adI V;have:=Dw l;omega
def acW:("strings.asciiSpace",DataW.agg (K5.map λz=>.lit (.int .u8 z)))∈(Rows.vmSameUptoRow.laid:List (String×DataW Unit)):=by
 have h:(Rows.vmSameUptoRow.laid:List (String×DataW Unit))=[("unicode.White_Space",Rows.laid_unicode_White_Space),("strings.asciiSpace",DataW.agg (K5.map λz=>.lit (.int .u8 z)))]:=by kernel_rfl
 rw[h];exact aep _ (List.mem_singleton.2 rfl)
def apL{W:World}(h:W.ShapedOpen Tryz.prog):∃m,W.cell? ⟨2,0,none⟩=some (.int .i64 m):=
 cell_of_shapedOpen_int (t:=3) (zero:=#[.int .i64 0]) h (adI (by kernel_rfl)) (by kernel_rfl) rfl (by kernel_rfl) (by kernel_rfl) (by kernel_rfl)
def agH{W:World}(M:laidMetH Tryz.prog Rows.vmSameUptoRow.laid W)(m:Int)(hm:W.cell? ⟨2,0,none⟩=some (.int .i64 m)):gr W (λ_=>False) (@ctx ⟨m⟩).gl:=by
 rw[MakeChecks.laidMetH_plain _ _ _ (by kernel_rfl)]at M;intro x O;have U:x∈[((0:Nat),D.agg (K5.map λz=>.int .u8 z)),(2,.int .i64 m)]:=O;simp only[ac4,adL,apQ]at U;rcases U with rfl|rfl
 .obtain⟨a,b⟩:=Qv (name:= "strings.asciiSpace") (n:=256) (e:=5) (t:=249) (g:=0) (k:=.u8) (zs:=K5) M acW (by kernel_rfl) (by kernel_rfl) (by kernel_rfl) (by kernel_rfl) (by kernel_rfl) (by decide) (by kernel_rfl);exact⟨a,id,b⟩
 .refine⟨⟨(HP hm).1,λ_ h=>by cases h⟩,id,.int .i64 m,.int _ _,λi c hi=>?_⟩;match i,hi with
  |0,hi=>simp[Value.cells]at hi;subst hi;exact hm
  |i+1,hi=>simp[Value.cells]at hi
def Nt(os:Os)(started:os.Started)(H:Type)(enc:TypeId×Value->H)(F:Stop.Interp):
 ReturnsInHanded {} Tryz.checked os 4 .any (λw args=>((Rows.OpenSpec.upto Rows.vmSameSpec).pre enc Tryz.prog f4 [] false w args/\laidMetH Tryz.prog Rows.vmSameUptoRow.laid w)/\sizedMet enc Tryz.prog f4 (Rows.OpenSpec.upto Rows.vmSameSpec) false w args)
  (((Rows.OpenSpec.upto Rows.vmSameSpec).at F).post enc Tryz.prog f4 false true false false):=by
 refine Wg (C:=Tryz.checked) (s:=Rows.OpenSpec.upto Rows.vmSameSpec) (k:=Rows.uptoSmall) rfl (X:=λw _=>laidMetH Tryz.prog Rows.vmSameUptoRow.laid w) (λ_ _ _ hh h=>h.of_heap hh) Tryz.own started (by kernel_rfl) Tryz.func4
  (JQ (enc:=enc) (C:=Tryz.checked) (os:=os) (s:=Rows.OpenSpec.upto Rows.vmSameSpec) (k:=Rows.uptoSmall) rfl (X:=λw _=>laidMetH Tryz.prog Rows.vmSameUptoRow.laid w) false (World.doorLaid Tryz.prog 33 os)
   #[.agg #[.string .empty,.slice none 0 0,.slice none 0 0],.slice none 0 0,.int .i64 0] 8 rfl (World.shaped_of_RefB (by kernel_rfl) (by kernel_rfl)) (by kernel_rfl) (by kernel_rfl) (by kernel_rfl) (acV os _)) ?_
 intro W base args J gs before Y Z y M A';obtain⟨m,hm⟩:=apL A';letI:Inhabited bO:=⟨m⟩
 have AH:=WJ y;refine Ns (X:=ctx) amW (s:=Rows.vmSameSpec) (L:=[25,9,22,23,59,3,4,2,124,120,118,121,26,115,122]) (tb:=4) (by kernel_rfl) Tryz.laidOut (by kernel_rfl) (by kernel_rfl) Tryz.underlying4 rfl ?_ Y Z (agH M m hm) ?_
 .intro J A0;match J,A0 with
  |[d1,d2,d3],_=>rfl
 .intro xs A1 T AI;have A2:cq xs<=1048576:=by
   have:jy J<=jy (J++gs):=Kq J gs;omega
  match xs,A1 with
  |[A3,A4,A5],_=>
   obtain⟨n,O⟩:=T 0 25 A3 (by kernel_rfl) rfl;obtain⟨p,rfl,A6⟩:=ab5 O;obtain⟨AJ,A7⟩:=T 1 26 A4 (by kernel_rfl) rfl;obtain⟨C,rfl,A8⟩:=JU A7;have A9:∀c∈C,bz c:=λc AA=>by have:=adp.1 A8 c AA;unfold wY at this;unfold bz;simpa using this
   obtain⟨AK,AB⟩:=T 2 3 A5 (by kernel_rfl) rfl;obtain⟨AC,rfl,AL⟩:=ob Tryz.underlying3 AB;exact WI C AC A6 (by simp only[q8,cq]at A2⊢;omega) A9
set_option maxHeartbeats 40000000 in
def Nu:joinedFacts Tryz.pinned.checked.prog 4 f4 (Rows.OpenSpec.upto Rows.vmSameSpec).bare Rows.vmSameUptoRow=true:=by
 unfold joinedFacts;simp only[Ds];repeat' apply And.intro
 all_goals (as_aux_lemma=>kernel_rfl)
def RD:Rows.VmSameUptoSaid:=
 OpenClaim.holds_of_cond 4 f4 rfl rfl rfl rfl rfl rfl rfl ⟨rfl,rfl,rfl,rfl,rfl⟩ rfl rfl rfl rfl rfl (by as_aux_lemma=>kernel_rfl) Tryz.func4 Nu
  (adI (by as_aux_lemma=>kernel_rfl)) (by unfold Func.isWrapper;first|(rw[ac1 (by decide+kernel)];kernel_rfl)|(rw[aaf (by decide+kernel)];exact⟨rfl,rfl⟩))
  (λos started H enc _ F=>Nt os started H enc F)
theorem vmSame_card_holds:Rows.VmSameUptoCardSaid:=
 Claim7.holds_tied_plain_at .later [] _ _ _ _
  RD (λ_ h=>by cases h) (by as_aux_lemma=>kernel_rfl) (λ_ h=>by cases h) vmSameUpto_row_tie rfl ⟨rfl,rfl⟩ (by as_aux_lemma=>kernel_rfl) rfl
  (λf fn AD AE=>by
   obtain rfl:f=4:=aiX ((show Tryz.prog.funcNamed "servitor/servitorlaw26.VmSame" =some 4 by kernel_rfl).symm.trans AD) |>.symm;obtain rfl:fn=f4:=(aiX (Tryz.func4.symm.trans AE)).symm;exact⟨by as_aux_lemma=>kernel_rfl,λj t I=>by
    rw[Tryz.params4]at I;match j,I with
    |0,I=>(obtain rfl:t=25:=by simpa using I.symm);exact (show Tryz.prog.wantsStandIn 25=false by kernel_rfl)
    |1,I=>(obtain rfl:t=26:=by simpa using I.symm);exact (show Tryz.prog.wantsStandIn 26=false by kernel_rfl)
    |2,I=>(obtain rfl:t=3:=by simpa using I.symm);exact (show Tryz.prog.wantsStandIn 3=false by kernel_rfl)
    |j+3,I=>simp at I⟩)
  (by as_aux_lemma=>kernel_rfl)
#print axioms vmSame_card_holds
end Go.Proofs.YtlmkmdmbfmpfgaaGreatDoor
