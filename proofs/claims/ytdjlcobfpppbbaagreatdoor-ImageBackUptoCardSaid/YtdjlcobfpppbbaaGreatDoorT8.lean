/-
  The tied card of ImageBack in its second form is proved: where the program and the bytes that are given hold at most 1048576 values and letters, the law returns true and leaves its arguments as they were. Conditions: those of the row itself (the listed package variables start as the program lays them; the bound).
-/
import Derived.Test.YtdjlcobfpppbbaaGreatDoorT7
import Derived.Test.YtdjlcobfpppbbaaGreatDoorRows
import Derived.Test.YtdjlcobfpppbbaaGreatDoorCards
import Derived.Test.YtdjlcobfpppbbaaGreatDoorTie
import Derived.JoinedOf
import Derived.LaidMore
import Derived.LaidHandle
import Derived.SevenTiedAt
set_option linter.all false
namespace Go.Proofs.YtdjlcobfpppbbaaGreatDoor
open Go Go.Am Go.Proofs.Tryz
set_option maxRecDepth 100000
theorem Tryz.own:ownKnob Tryz.prog.godebug=none:=by kernel_rfl
theorem Tryz.laidOut:laidOutB Tryz.prog=true:=by kernel_rfl
theorem alk[Inhabited b9]:lH ctx:=lH.of (by kernel_rfl) afJ
theorem acb(os:Os)(args:Array Value):laidMetH Tryz.prog Rows.imageBackUptoRow.laid ((World.doorLaid Tryz.prog 33 os).forCall (λ_ _=>0) ⟨#[],args,[]⟩).memory:=
 laidMetH_of_parts3 (fuel:=8) (laidMet_of_run' 8 (by kernel_rfl) (by kernel_rfl)) (by kernel_rfl) (by kernel_rfl)
mutual
theorem afK{H:Type}:∀d:DataW H,jJ d<=Rows.uptoBulk d
 | .lit l=>by cases l<;>simp[jJ,Rows.uptoBulk]
 | .nil=>by simp[jJ,Rows.uptoBulk]
 | .ptr d=>by simp[jJ,Rows.uptoBulk]
 | .slice e s=>by
  have h:=AP e;simp only[jJ,Rows.uptoBulk];omega
 | .agg p=>by
  have h:=AP p;simp only[jJ,Rows.uptoBulk];omega
 | .iface t d=>by simp[jJ,Rows.uptoBulk]
 | .map es=>by simp[jJ,Rows.uptoBulk]
 | .held h=>by simp[jJ,Rows.uptoBulk]
theorem AP{H:Type}:∀l:List (DataW H),ix l<=Rows.uptoBulkAll l
 |[]=>ack _
 |d::r=>by
  have A9:=afK d;have AA:=AP r;simp only[ix,Rows.uptoBulkAll];omega
end
theorem HO{H:Type}:∀a b:List (DataW H),ix a<=ix (a++b)
 |[],b=>apk _
 |x::a,b=>by
  have:=HO a b;simp only[agx,ix];omega
theorem U2{H:Type}{l:List (DataW H)}(V:Rows.uptoSmall H l=true):ix l<=1048576:=by
 have h:Rows.uptoBulkAll l<=1048576:=adT V;have:=AP l;omega
theorem Pb[Inhabited b9]{n:Nat}{x:D}(E:typed Tryz.prog n 5 x):∃c:UInt8,x=eh c:=by
 obtain⟨m,rfl⟩:=qD E;obtain⟨z,rfl,Y⟩:=JA Tryz.underlying5 E;simp[Lit.wf,IntKind.max,IntKind.min,IntKind.bits,IntKind.signed]at Y;refine⟨UInt8.ofNat z.toNat,?_⟩;have:(UInt8.ofNat z.toNat).toNat=z.toNat:=by simp;omega
 simp only[eh,this];congr 1;omega
theorem acd:("strings.asciiSpace",DataW.agg (Ii.map λz=>.lit (.int .u8 z)))∈(Rows.imageBackUptoRow.laid:List (String×DataW Unit)):=by
 have h:(Rows.imageBackUptoRow.laid:List (String×DataW Unit))=[("unicode.White_Space",Rows.laid_unicode_White_Space),("strings.asciiSpace",DataW.agg (Ii.map λz=>.lit (.int .u8 z)))]:=by kernel_rfl
 rw[h];exact afX _ (List.mem_singleton.2 rfl)
theorem ao4{W:World}(h:W.ShapedOpen Tryz.prog):∃m,W.cell? ⟨2,0,none⟩=some (.int .i64 m):=
 cell_of_shapedOpen_int (t:=3) (zero:=#[.int .i64 0]) h (adT (by kernel_rfl)) (by kernel_rfl) rfl (by kernel_rfl) (by kernel_rfl) (by kernel_rfl)
theorem afL{W:World}(M:laidMetH Tryz.prog Rows.imageBackUptoRow.laid W)(m:Int)(hm:W.cell? ⟨2,0,none⟩=some (.int .i64 m)):fL W (λ_=>False) (@ctx ⟨m⟩).gl:=by
 rw[MakeChecks.laidMetH_plain _ _ _ (by kernel_rfl)]at M;intro x E;have T:x∈[((0:Nat),D.agg (Ii.map λz=>.int .u8 z)),(2,.int .i64 m)]:=E;simp only[aco,adQ,akp]at T;rcases T with rfl|rfl
 ·obtain⟨a,b⟩:=OD (name:= "strings.asciiSpace") (n:=256) (e:=5) (t:=274) (g:=0) (k:=.u8) (zs:=Ii) M acd (by kernel_rfl) (by kernel_rfl) (by kernel_rfl) (by kernel_rfl) (by kernel_rfl) (by decide) (by kernel_rfl);exact⟨a,id,b⟩
 ·refine⟨⟨(Fa hm).1,λ_ h=>by cases h⟩,id,.int .i64 m,.int _ _,λi c hi=>?_⟩;match i,hi with
  |0,hi=>simp[Value.cells]at hi;subst hi;exact hm
  |i+1,hi=>simp[Value.cells]at hi
theorem FE(os:Os)(started:os.Started)(H:Type)(enc:TypeId×Value->H)(F:Stop.Interp):
 ReturnsInHanded {} Tryz.checked os 4 .any (λw args=>((Rows.OpenSpec.upto Rows.imageBackSpec).pre enc Tryz.prog f4 [] false w args/\laidMetH Tryz.prog Rows.imageBackUptoRow.laid w)/\sizedMet enc Tryz.prog f4 (Rows.OpenSpec.upto Rows.imageBackSpec) false w args)
  (((Rows.OpenSpec.upto Rows.imageBackSpec).at F).post enc Tryz.prog f4 false true false false):=by
 refine U1 (C:=Tryz.checked) (s:=Rows.OpenSpec.upto Rows.imageBackSpec) (k:=Rows.uptoSmall) rfl (X:=λw _=>laidMetH Tryz.prog Rows.imageBackUptoRow.laid w) (λ_ _ _ hh h=>h.of_heap hh) Tryz.own started (by kernel_rfl) Tryz.func4
  (HN (enc:=enc) (C:=Tryz.checked) (os:=os) (s:=Rows.OpenSpec.upto Rows.imageBackSpec) (k:=Rows.uptoSmall) rfl (X:=λw _=>laidMetH Tryz.prog Rows.imageBackUptoRow.laid w) false (World.doorLaid Tryz.prog 33 os)
   #[.agg #[.string .empty,.slice none 0 0,.slice none 0 0],.slice none 0 0] 8 rfl (World.shaped_of_RefB (by kernel_rfl) (by kernel_rfl)) (by kernel_rfl) (by kernel_rfl) (by kernel_rfl) (acb os _)) ?_
 intro W base args J gs before Z y A' M A0;obtain⟨m,hm⟩:=ao4 A0;letI:Inhabited b9:=⟨m⟩
 have AB:=U2 A';refine Kk (X:=ctx) alk (s:=Rows.imageBackSpec) (L:=[25,9,22,23,71,3,4,2,141,136,134,137,45,138,139,38,5]) (tb:=4) (by kernel_rfl) Tryz.laidOut (by kernel_rfl) (by kernel_rfl) Tryz.underlying4 rfl ?_ Z y (afL M m hm) ?_
 ·intro J A1;match J,A1 with
  |[d1,d2],_=>rfl
 ·intro xs O U AC;have A2:bW xs<=1048576:=by
   have:ix J<=ix (J++gs):=HO J gs;omega
  match xs,O with
  |[A3,A4],_=>
   obtain⟨n,E⟩:=U 0 25 A3 (by kernel_rfl) rfl;obtain⟨p,rfl,A5⟩:=abd E;obtain⟨AD,A6⟩:=U 1 38 A4 (by kernel_rfl) rfl;obtain⟨xs,m,_,rfl,O⟩:=lY Tryz.underlying38 A6;obtain⟨bs,rfl⟩:=tf (f:=eh) (λx E=>Pb (O x E));exact Km bs A5 (by simp only[uo,bW]at A2⊢;omega)
set_option maxHeartbeats 40000000 in
theorem FG:joinedFacts Tryz.pinned.checked.prog 4 f4 (Rows.OpenSpec.upto Rows.imageBackSpec).bare Rows.imageBackUptoRow=true:=by
 unfold joinedFacts;simp only[Ds];repeat' apply And.intro
 all_goals (as_aux_lemma=>kernel_rfl)
theorem HP:Rows.ImageBackUptoSaid:=
 OpenClaim.holds_of_cond 4 f4 rfl rfl rfl rfl rfl rfl rfl ⟨rfl,rfl,rfl,rfl,rfl⟩ rfl rfl rfl rfl rfl (by as_aux_lemma=>kernel_rfl) Tryz.func4 FG
  (adT (by as_aux_lemma=>kernel_rfl)) (by unfold Func.isWrapper;first|(rw[acs (by decide+kernel)];kernel_rfl)|(rw[ach (by decide+kernel)];exact⟨rfl,rfl⟩))
  (λos started H enc _ F=>FE os started H enc F)
theorem imageBack_card_holds:Rows.ImageBackUptoCardSaid:=
 Claim7.holds_tied_plain_at .later [] _ _ _ _
  HP (λ_ h=>by cases h) (by as_aux_lemma=>kernel_rfl) (λ_ h=>by cases h) imageBackUpto_row_tie rfl ⟨rfl,rfl⟩ (by as_aux_lemma=>kernel_rfl) rfl
  (λf fn A7 A8=>by
   obtain rfl:f=4:=Option.some.inj ((show Tryz.prog.funcNamed "servitor/servitorlaw31.ImageBack" =some 4 by kernel_rfl).symm.trans A7) |>.symm;obtain rfl:fn=f4:=(Option.some.inj (Tryz.func4.symm.trans A8)).symm;exact⟨by as_aux_lemma=>kernel_rfl,λj t I=>by
    rw[Tryz.params4]at I;match j,I with
    |0,I=>(obtain rfl:t=25:=by simpa using I.symm);exact (show Tryz.prog.wantsStandIn 25=false by kernel_rfl)
    |1,I=>(obtain rfl:t=38:=by simpa using I.symm);exact (show Tryz.prog.wantsStandIn 38=false by kernel_rfl)
    |j+2,I=>simp at I⟩)
  (by as_aux_lemma=>kernel_rfl)
#print axioms imageBack_card_holds
end Go.Proofs.YtdjlcobfpppbbaaGreatDoor
