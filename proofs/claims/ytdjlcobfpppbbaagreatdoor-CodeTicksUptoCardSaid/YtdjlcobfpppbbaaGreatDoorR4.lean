/-
  Texts of one proof, one behind the other.
-/
import Derived.Test.YtdjlcobfpppbbaaGreatDoorR3
import Derived.Laws.BitsLemmas
import Derived.Laws.Bits64
import Derived.Lib.Mul64
import Derived.Lib.Bytealg
import Derived.Lib.Index
import Derived.Lib.Strings
import Derived.Test.YtdjlcobfpppbbaaGreatDoorProg
import Derived.KernelRfl
set_option linter.all false
section
namespace Go.Am
open Go
attribute [simp] stepv.eq_1
attribute [simp] opOk.eq_1
attribute [simp] okAll.eq_1 okAll.eq_2
attribute [simp] Go.Op.operands.eq_1 Go.Op.operands.eq_2 Go.Op.operands.eq_3 Go.Op.operands.eq_4 Go.Op.operands.eq_5 Go.Op.operands.eq_6 Go.Op.operands.eq_7 Go.Op.operands.eq_8 Go.Op.operands.eq_9 Go.Op.operands.eq_10 Go.Op.operands.eq_11 Go.Op.operands.eq_12 Go.Op.operands.eq_13 Go.Op.operands.eq_14 Go.Op.operands.eq_15 Go.Op.operands.eq_16 Go.Op.operands.eq_17 Go.Op.operands.eq_18 Go.Op.operands.eq_19 Go.Op.operands.eq_20 Go.Op.operands.eq_21 Go.Op.operands.eq_22 Go.Op.operands.eq_23 Go.Op.operands.eq_24 Go.Op.operands.eq_25 Go.Op.operands.eq_26 Go.Op.operands.eq_27 Go.Op.operands.eq_28 Go.Op.operands.eq_29 Go.Op.operands.eq_30 Go.Op.operands.eq_31 Go.Op.operands.eq_32 Go.Op.operands.eq_33 Go.Op.operands.eq_34 Go.Op.operands.eq_35 Go.Op.operands.eq_36 Go.Op.operands.eq_37 Go.Op.operands.eq_38 Go.Op.operands.eq_39 Go.Op.operands.eq_40 Go.Op.operands.eq_41 Go.Op.operands.eq_42 Go.Op.operands.eq_43
attribute [simp] St.opd.eq_1 St.opd.eq_2 St.opd.eq_3 St.opd.eq_4
attribute [simp] Env.lk.eq_1 Env.lk.eq_2
attribute [simp] St.put.eq_1 St.put.eq_2
attribute [simp] Mem.get.eq_1 Mem.get.eq_2
attribute [simp] Mem.set.eq_1 Mem.set.eq_2
attribute [simp] AV.solid.eq_1 AV.solid.eq_2 AV.solid.eq_3
attribute [simp] constAV.eq_1 constAV.eq_2 constAV.eq_3 constAV.eq_4 constAV.eq_5 constAV.eq_6
attribute [simp] AV.cells.eq_1 AV.cells.eq_2 AV.cells.eq_3
attribute [simp] loadR.eq_1 loadR.eq_2 loadR.eq_3 loadR.eq_4 loadR.eq_5
attribute [simp] storeR.eq_1 storeR.eq_2 storeR.eq_3
attribute [simp] fieldRm.eq_1 nilCheckR.eq_1 nilCheckR.eq_2 nilCheckR.eq_3
attribute [simp] indexR.eq_1 indexR.eq_2
attribute [simp] binOpR.eq_1 binOpR.eq_2 binOpR.eq_3 binOpR.eq_4
attribute [simp] isNilV.eq_1 isNilV.eq_2 isNilV.eq_3 isNilV.eq_4
attribute [simp] binR.eq_1 binR.eq_2 binR.eq_3 binR.eq_4 binR.eq_5 binR.eq_6 binR.eq_7 binR.eq_8 binR.eq_9
attribute [simp] intBin.eq_1 intBin.eq_2 intBin.eq_3 intBin.eq_4 intBin.eq_5 intBin.eq_6 intBin.eq_7 intBin.eq_8 intBin.eq_9 intBin.eq_10 intBin.eq_11 intBin.eq_12 intBin.eq_13 intBin.eq_14 intBin.eq_15 intBin.eq_16
attribute [simp] strBin.eq_1 strBin.eq_2 strBin.eq_3 strBin.eq_4 strBin.eq_5 strBin.eq_6 strBin.eq_7 strBin.eq_8
attribute [simp] pickR.eq_1
attribute [simp] pickAV.eq_1 pickAV.eq_2
attribute [simp] pickD.eq_1 pickD.eq_2
attribute [simp] grd.eq_1
attribute [simp] mkAgg.eq_1
def OL{α:Type}(y:α):Option (List α)→Option (List α)
 |some ys=>some (y::ys)
 |none=>none
@[simp] theorem agi{α:Type}(y:α)(ys:List α):OL y (some ys)=some (y::ys):=rfl
@[simp] theorem agj{α:Type}(y:α):OL y none=none:=rfl
@[simp] theorem aln:gn []=some []:=rfl
@[simp] theorem asi(y r):gn (.d y::r)=OL y (gn r):=by
 cases h:gn r with
 |none=>exact gn.eq_3 _ _ (fun _ _ _ h2=>by rw[h]at h2;cases h2)
 |some ys=>exact gn.eq_2 _ _ _ h
@[simp] theorem alo(a b c d r):gn (.vec a b c d::r)=none:=by rw[gn.eq_def]
@[simp] theorem alp(a b c r):gn (.ptr a b c::r)=none:=by rw[gn.eq_def]
@[simp] theorem alq(a r):gn (.lit a::r)=none:=by rw[gn.eq_def]
@[simp] theorem apD(a b r):gn (.fn a b::r)=none:=by rw[gn.eq_def]
@[simp] theorem apE(r):gn (.nn::r)=none:=by rw[gn.eq_def]
@[simp] theorem ajv(r):gn (.bf::r)=none:=by rw[gn.eq_def]
attribute [simp] moveR.eq_1 moveR.eq_2
attribute [simp] unR.eq_1 unR.eq_2 unR.eq_3 unR.eq_4
attribute [simp] builtinR.eq_1 builtinR.eq_2 builtinR.eq_3 builtinR.eq_4 builtinR.eq_5 builtinR.eq_6 capR.eq_1
attribute [simp] lenRm.eq_1 lenRm.eq_2 lenRm.eq_3 lenRm.eq_4 lenRm.eq_5
attribute [simp] appR.eq_1
attribute [simp] appSrc.eq_1 appN.eq_1 appN.eq_2 appS.eq_1 appS.eq_2
attribute [simp] fzRes.eq_1 fzRes.eq_2
attribute [simp] srcRows.eq_1 srcRows.eq_2 srcRows.eq_3 srcRows.eq_4 srcRows.eq_5
attribute [simp] makeR.eq_1
attribute [simp] copyR.eq_1
attribute [simp] maxR.eq_1 maxR.eq_2
attribute [simp] foldMax.eq_1 foldMax.eq_2 foldMax.eq_3 foldMax.eq_4
attribute [simp] buildR.eq_1
attribute [simp] fillA.eq_1 fillA.eq_2
attribute [simp] buildSliceR.eq_1
attribute [simp] partDs.eq_1 partDs.eq_2
attribute [simp] convM.eq_1 convM.eq_2
attribute [simp] convR.eq_1 convR.eq_2 convR.eq_3 convR.eq_4 convR.eq_5 convR.eq_6
attribute [simp] makeIfaceR.eq_1
attribute [simp] makeFuncR.eq_1 makeFuncR.eq_2 makeFuncR.eq_3
attribute [simp] extractR.eq_1 extractR.eq_2 fieldVR.eq_1 fieldVR.eq_2 assertR.eq_1
attribute [simp] indexVR.eq_1 indexVR.eq_2 indexVR.eq_3 indexVR.eq_4
attribute [simp] sliceR.eq_1 sliceR.eq_2 sliceR.eq_3 sliceR.eq_4 sliceR.eq_5
attribute [simp] bound.eq_1 bound.eq_2 bound.eq_3
attribute [simp] putCells.eq_1 putCells.eq_2
attribute [simp] nilR.eq_1 nilR.eq_2 nilR.eq_3 nilR.eq_4 nilR.eq_5 nilR.eq_6 nilR.eq_7 nilR.eq_8 nilR.eq_9 nilR.eq_10 nilR.eq_11 nilR.eq_12
attribute [simp] D.cells.eq_1 D.cells.eq_2
attribute [simp] D.size.eq_1 D.size.eq_2
attribute [simp] D.flat.eq_1 D.flat.eq_2
attribute [simp] callVal.eq_1 callVal.eq_2
attribute [simp] argVals.eq_1 argVals.eq_2 fnId.eq_1 fnArgs.eq_1 fnIdN.eq_1 fnArgsN.eq_1 bnB.eq_1
attribute [simp] collect.eq_1 collect.eq_2 collect.eq_3
attribute [simp] argKeys.eq_1 argKeys.eq_2
attribute [simp] argBor.eq_1 argBor.eq_2
attribute [simp] avKeys.eq_1 avKeys.eq_2 avKeys.eq_3 avKeys.eq_4 avKeys.eq_5 avKeys.eq_6 avKeys.eq_7 avKeys.eq_8 avKeys.eq_9 avKeys.eq_10 avKeys.eq_11 avKeys.eq_12
attribute [simp] ptrKeys.eq_1 ptrKeys.eq_2 ptrKeys.eq_3 ptrKeys.eq_4 ptrKeys.eq_5 ptrKeys.eq_6 ptrKeys.eq_7
attribute [simp] vecKeys.eq_1 vecKeys.eq_2 vecKeys.eq_3 vecKeys.eq_4
attribute [simp] contKeys.eq_1 contKeys.eq_2
attribute [simp] vwArgs.eq_1 vwArgs.eq_2 nrm.eq_1 nrm.eq_2
attribute [simp] conts.eq_1 conts.eq_2
attribute [simp] selC.eq_1 selC.eq_2 selC.eq_3
attribute [simp] selE.eq_1 selE.eq_2
attribute [simp] findK.eq_1 findK.eq_2
attribute [simp] callBack.eq_1 callBack.eq_2
attribute [simp] frOk.eq_1 frOk.eq_2
attribute [simp] plainO.eq_1 plainO.eq_2
attribute [simp] plainL.eq_1 plainL.eq_2 plainL.eq_1 plainL.eq_2
attribute [simp] plainC.eq_1 plainC.eq_2 plainC.eq_3
attribute [simp] plainAV.eq_1 plainAV.eq_2 plainAV.eq_3 plainAV.eq_4 plainAV.eq_5 plainAV.eq_6 plainAV.eq_7 plainAV.eq_8 plainAV.eq_9 plainAV.eq_10 plainAV.eq_11 plainAV.eq_12
attribute [simp] plainD.eq_1 plainD.eq_2 plainD.eq_3 plainD.eq_4 plainD.eq_5 plainD.eq_6
attribute [simp] upO.eq_1 upO.eq_2
attribute [simp] up.eq_1 up.eq_2 up.eq_3 up.eq_4 up.eq_5 up.eq_6 up.eq_7 up.eq_8 up.eq_9 up.eq_10 up.eq_11 up.eq_12
attribute [simp] upC.eq_1 upC.eq_2 upC.eq_3
attribute [simp] backL.eq_1 backL.eq_2
attribute [simp] base.eq_1 base.eq_2
attribute [simp] putAll.eq_1 putAll.eq_2
attribute [simp] ghs.eq_1 ghs.eq_2
attribute [simp] Gh.go.eq_1 Gh.go.eq_2 Gh.go.eq_3 Gh.go.eq_4
attribute [simp] St.rekey.eq_1 rkAV.eq_1 rkAV.eq_2 mapB.eq_1 mapB.eq_2 boxD.eq_1 boxD.eq_2 flats.eq_1 flats.eq_2
attribute [simp] finish.eq_1
attribute [simp] resAll.eq_1 resAll.eq_2
attribute [simp] resOne.eq_1 resOne.eq_2
attribute [simp] finKeys.eq_1
attribute [simp] St.trim1.eq_1
attribute [simp] refMem.eq_1 refMem.eq_2 refMem.eq_3
attribute [simp] refEnv.eq_1 refEnv.eq_2
attribute [simp] refAV.eq_1 refAV.eq_2 refAV.eq_3 refAV.eq_4 refAV.eq_5 refAV.eq_6 refAV.eq_7 refAV.eq_8 refAV.eq_9 refAV.eq_10 refAV.eq_11 refAV.eq_12
attribute [simp] St.trim.eq_1
attribute [simp] mapEnv.eq_1 mapEnv.eq_2
attribute [simp] mapM.eq_1 mapM.eq_2
attribute [simp] mapC.eq_1 mapC.eq_2 mapC.eq_3
attribute [simp] trAV.eq_1 trAV.eq_2 trAV.eq_3 trAV.eq_4 trAV.eq_5 trAV.eq_6 trAV.eq_7 trAV.eq_8 trAV.eq_9 trAV.eq_10 trAV.eq_11 trAV.eq_12
attribute [simp] envVals.eq_1 envVals.eq_2
attribute [simp] oneOf.eq_1 oneOf.eq_2
attribute [simp] AV.norm.eq_1 AV.norm.eq_2 AV.norm.eq_3 AV.norm.eq_4
attribute [simp] toD1.eq_1 toD1.eq_2 toD1.eq_3 toD1.eq_4
attribute [simp] toDsN.eq_1 toDsN.eq_2
attribute [simp] vw.eq_1 vw.eq_2 vw.eq_3 vw.eq_4 vw.eq_5 vw.eq_6 vw.eq_7 vw.eq_8 vw.eq_9 vw.eq_10 vw.eq_11 vw.eq_12
attribute [simp] selL.eq_1 selL.eq_2
attribute [simp] TK.agg.eq_1 TK.agg.eq_2 TK.agg.eq_3
attribute [simp] stepK.eq_1 stepK.eq_2 stepK.eq_3
attribute [simp] guardK.eq_1 guardK.eq_2 guardK.eq_3
attribute [simp] grdK.eq_1 grdK.eq_2 grdK.eq_3
attribute [simp] specK.eq_1 specK.eq_2 specK.eq_3
attribute [simp] callK.eq_1 callK.eq_2 callK.eq_3
attribute [simp] panicK.eq_1 panicK.eq_2
attribute [simp] isB.eq_1 isB.eq_2
attribute [simp] boolOf.eq_1 boolOf.eq_2
attribute [simp] boxR.eq_1
attribute [simp] allocR.eq_1 arrR.eq_1 isZ.eq_1 isZ.eq_2 zeroOf.eq_1 zeroOf.eq_2 zeroOf.eq_3
attribute [simp] St.trims.eq_1 St.trims.eq_2
attribute [simp] vws.eq_1 vws.eq_2
attribute [simp] plainAVs.eq_1 plainAVs.eq_2
attribute [simp] plainDs.eq_1 plainDs.eq_2
attribute [simp] ups.eq_1 ups.eq_2
attribute [simp] refAVs.eq_1 refAVs.eq_2
attribute [simp] trAVs.eq_1 trAVs.eq_2
attribute [simp] avsKeys.eq_1 avsKeys.eq_2
attribute [simp] ptrsKeys.eq_1 ptrsKeys.eq_2
attribute [simp] vecsKeys.eq_1 vecsKeys.eq_2
attribute [simp] entryEnv.eq_1 entryEnv.eq_2
attribute [simp] inM.eq_1 inM.eq_2
attribute [simp] runSplit.eq_1 runSplit.eq_2 runSplit.eq_3
attribute [simp] emptyVec.eq_1 emptyVec.eq_2
attribute [simp] splitRun.eq_1
attribute [simp] touch.eq_1 topsOf.eq_1 topsOf.eq_2 topsOf.eq_3
attribute [simp] keysTop.eq_1 keysTop.eq_2
attribute [simp] keyTop.eq_1 keyTop.eq_2 keyTop.eq_3 keyTop.eq_4
attribute [simp] dstepK.eq_1 dstepK.eq_2 dstepK.eq_3
attribute [simp] dguardK.eq_1 dguardK.eq_2 dguardK.eq_3
attribute [simp] dgrdK.eq_1 dgrdK.eq_2 dgrdK.eq_3
attribute [simp] dspecK.eq_1 dspecK.eq_2 dstepG.eq_1 dstepG.eq_2 dstepG.eq_3 dspecG.eq_1 dspecG.eq_2 dcallG.eq_1 dcallG.eq_2
attribute [simp] dcallK.eq_1 dcallK.eq_2 dcallK.eq_3
attribute [simp] fzAV.eq_1 fzAV.eq_2 fzAV.eq_3 fzAV.eq_4 fzAV.eq_5 fzAV.eq_6 fzAV.eq_7 fzAV.eq_8 fzAV.eq_9 fzAV.eq_10 fzAV.eq_11 fzAV.eq_12
attribute [simp] fzAVs.eq_1 fzAVs.eq_2
attribute [simp] St.freeze.eq_1
attribute [simp] St.adopt.eq_1
attribute [simp] Go.Call.operands.eq_1
attribute [simp] D.isByte.eq_1 D.isByte.eq_2
attribute [simp] eqFlat.eq_1 eqFlat.eq_2 eqFlat.eq_3 eqFlat.eq_4
attribute [simp] eqFlats.eq_1 eqFlats.eq_2 eqFlats.eq_3
attribute [simp] glk.eq_1 glk.eq_2
attribute [simp] denK_skip denK_exit denK_ret denK_seq denK_block denK_condT denK_condC denK_region denK_draw drwKA_n seqK_n seqK_x seqK_r seqK_p blkK_n blkK_x blkK_r blkK_p loopK_n loopK_x loopK_r loopK_p leaveK_n leaveK_p finK_n finK_r finK_p runK_nil runK_cons runK_guard callK_ite callBack_ite drwK_cons drwK_guard dcallK_ite dcallG_ite
attribute [simp] frzO.eq_1 frzO.eq_2 frzR.eq_1 frzR.eq_2 mkM.eq_1 mkM.eq_2
attribute [simp] forkK.eq_1 forkK.eq_2
attribute [simp] dforkK.eq_1 dforkK.eq_2
attribute [simp] gdst.eq_1
attribute [simp] Env.kn.eq_1 Env.kn.eq_2 St.kn.eq_1
attribute [simp] ordD.eq_1 ordL.eq_1 ordL.eq_2 ordL.eq_3 ordE.eq_1 ordE.eq_2 ordK.eq_1 ordK.eq_2 revA.eq_1 revA.eq_2 disj.eq_1
attribute [simp] orcAns.eq_1 orcAns.eq_2 liftO.eq_1
@[simp] theorem asj(t:Bool):oa (some (true,.d (.bool t)))=.qN t:=rfl
@[simp] theorem asl:oa (some (true,.aW []))=.skip:=rfl
attribute [simp] dstAt.eq_1
attribute [simp] St.cz St.prune keyOf St.leave finVals finTrim finOut St.mapAll nvX nv0 callOk entry dead callOp callOp2 callOp3 D.at D.cell D.setCells finPanic
@[simp] theorem agk(m ρ bor nv):∀ds:List D,vws m ρ bor nv (ds.map .d)=ds.map .d
 |[]=>rfl
 |d::r=>by simp[agk m ρ bor nv r]
@[simp] theorem agl(ρ bs):∀ds:List D,ups ρ bs (ds.map .d)=ds.map .d
 |[]=>rfl
 |d::r=>by simp[agl ρ bs r]
@[simp] theorem RN:∀ds:List D,avsKeys (ds.map .d)=[]
 |[]=>rfl
 |d::r=>by simp[RN r]
@[simp] theorem UU(k v):∀ds:List D,refAVs k v (ds.map .d)=none
 |[]=>rfl
 |d::r=>by simp[UU k v r]
@[simp] theorem ZL(k v o l):∀ds:List D,trAVs k v o l (ds.map .d)=ds.map .d
 |[]=>rfl
 |d::r=>by simp[ZL k v o l r]
@[simp] theorem OM:∀ds:List D,plainAVs (ds.map .d)=plainDs ds
 |[]=>rfl
 |d::r=>by simp[OM r]
attribute [simp] List.take_of_length_le
@[simp] def Code.at:Code→List Nat→Code
 |c,[]=>c
 | .seq a b,i::p=>if i=0 then Code.at a p else Code.at b p
 | .cond _ a b,i::p=>if i=0 then Code.at a p else Code.at b p
 | .block _ c,_::p=>Code.at c p
 | .loop c,_::p=>Code.at c p
 |c,_=>c
@[simp] theorem apF:List.range 2=[0,1]:=rfl
@[simp] theorem apG:List.range 3=[0,1,2]:=rfl
@[simp] theorem apH:List.range 4=[0,1,2,3]:=rfl
@[simp] theorem apI:List.range 5=[0,1,2,3,4]:=rfl
@[simp] theorem apJ:List.range 6=[0,1,2,3,4,5]:=rfl
@[simp] theorem apK(a b:Int):(a == b)=decide (a=b):=by by_cases h:a=b<;>simp[h]
def aX(n:Int):Prop:= -9223372036854775808≤n∧n≤9223372036854775807
theorem au{n:Int}(h:aX n):IntKind.i64.wrap n=n:=IntWalk.i64_in _ (by unfold aX at h;omega)
def q1(m:Nat):Nat:=m/4294967296%4294967296
def q2(m:Nat):Nat:=m/18446744073709551616%4294967296
def q3(m:Nat):Nat:=m/79228162514264337593543950336%4294967296
def kS(z:Int):Int×Bool:=if-9223372036854775808≤z∧z≤9223372036854775807 then (z,true)else (0,false)
def yr(a b:Int):Int×Int:=if b=0 then (0,3)else if a= -9223372036854775808∧b= -1 then (0,2)else (a.tdiv b,0)
def AZ(a b:Int):Int×Int:=if b=0 then (0,3)else (a.tmod b,0)
theorem Hm(a b:Int):a.tdiv b=(if decide (a<0)=decide (b<0)then ((a.natAbs/b.natAbs:Nat):Int)else-((a.natAbs/b.natAbs:Nat):Int)):=by
 rcases Int.lt_or_le a 0 with ha|ha<;>rcases Int.lt_or_le b 0 with hb|hb
 ·rw[if_pos (by simp[ha,hb])];obtain⟨m,rfl⟩:∃m:Nat,a= -(m:Int):=⟨a.natAbs,by omega⟩;obtain⟨n,rfl⟩:∃n:Nat,b= -(n:Int):=⟨b.natAbs,by omega⟩;simp[Int.neg_tdiv,Int.tdiv_neg]
 ·rw[if_neg (by simp[ha];omega)];obtain⟨m,rfl⟩:∃m:Nat,a= -(m:Int):=⟨a.natAbs,by omega⟩;obtain⟨n,rfl⟩:∃n:Nat,b=(n:Int):=⟨b.natAbs,by omega⟩;simp[Int.neg_tdiv]
 ·rw[if_neg (by simp[hb];omega)];obtain⟨m,rfl⟩:∃m:Nat,a=(m:Int):=⟨a.natAbs,by omega⟩;obtain⟨n,rfl⟩:∃n:Nat,b= -(n:Int):=⟨b.natAbs,by omega⟩;simp[Int.tdiv_neg]
 ·rw[if_pos (by simp;omega)];obtain⟨m,rfl⟩:∃m:Nat,a=(m:Int):=⟨a.natAbs,by omega⟩;obtain⟨n,rfl⟩:∃n:Nat,b=(n:Int):=⟨b.natAbs,by omega⟩;simp
theorem ZM(a b:Int):a*b=(if decide (a<0)=decide (b<0)then ((a.natAbs*b.natAbs:Nat):Int)else-((a.natAbs*b.natAbs:Nat):Int)):=by
 rcases Int.lt_or_le a 0 with ha|ha<;>rcases Int.lt_or_le b 0 with hb|hb
 ·rw[if_pos (by simp[ha,hb])];obtain⟨m,rfl⟩:∃m:Nat,a= -(m:Int):=⟨a.natAbs,by omega⟩;obtain⟨n,rfl⟩:∃n:Nat,b= -(n:Int):=⟨b.natAbs,by omega⟩;simp[Int.neg_mul,Int.mul_neg]
 ·rw[if_neg (by simp[ha];omega)];obtain⟨m,rfl⟩:∃m:Nat,a= -(m:Int):=⟨a.natAbs,by omega⟩;obtain⟨n,rfl⟩:∃n:Nat,b=(n:Int):=⟨b.natAbs,by omega⟩;simp[Int.neg_mul]
 ·rw[if_neg (by simp[hb];omega)];obtain⟨m,rfl⟩:∃m:Nat,a=(m:Int):=⟨a.natAbs,by omega⟩;obtain⟨n,rfl⟩:∃n:Nat,b= -(n:Int):=⟨b.natAbs,by omega⟩;simp[Int.mul_neg]
 ·rw[if_pos (by simp;omega)];obtain⟨m,rfl⟩:∃m:Nat,a=(m:Int):=⟨a.natAbs,by omega⟩;obtain⟨n,rfl⟩:∃n:Nat,b=(n:Int):=⟨b.natAbs,by omega⟩;simp
def dO(b:Bool):Int:=if b=true then 1 else 0
@[simp] def Kj(p:Int×Bool×Int):AV:=.aW [.d (.int .i64 p.1),.d (.bool p.2.1),.d (.int .i64 p.2.2)]
def lu:Int×Bool×Int:=(0,false, -1)
def uf(p:Int×Bool):Int×Bool×Int:=if p.2=true then (p.1,false,0)else (0,false,2)
def ph(p:Int×Int):Int×Bool×Int:=if p.2=3 then (0,false,1)else if p.2=0 then (p.1,false,0)else (0,false,2)
def qP(op a:Int)(t:Bool):Int×Bool×Int:=
 if t=true then (if a≠0∧a≠1 then lu else if op=7 then (dO (decide (a=0)),true,0)else lu)
 else if op=6 then uf (kS (0-a))else lu
def Hn(op a b:Int):Int×Bool×Int:=
 if op=13 then (dO (decide (a=b)),true,0)else if op=14∨op=20 then (dO (decide (a≠b)),true,0)
 else if op=19 then (dO (decide (a=1∧b=1)),true,0)else if op=21 then (dO (decide (a=1∨b=1)),true,0)else lu
def Co(op a b:Int):Int×Bool×Int:=
 if op=8 then uf (kS (a+b))else if op=9 then uf (kS (a-b))else if op=10 then uf (kS (a*b))else if op=11 then ph (yr a b)else if op=12 then ph (AZ a b)
 else if op=13 then (dO (decide (a=b)),true,0)else if op=14 then (dO (decide (a≠b)),true,0)else if op=15 then (dO (decide (a<b)),true,0)
 else if op=16 then (dO (decide (b<a)),true,0)else if op=17 then (dO (decide (a≤b)),true,0)else if op=18 then (dO (decide (b≤a)),true,0)else lu
def uJ(op a b:Int)(t:Bool):Int×Bool×Int:=
 if t=true then (if (a≠0∧a≠1)∨(b≠0∧b≠1)then lu else Hn op a b)else Co op a b
def RO(e b:Int):Int:=if e<b then e+1 else e
def agm(k a b q e:Int):List Int:=
 if k=10 then (if a=0 then [a,b,0,0]else [a,b,dO (decide (b≤RO e b)),RO e b])
 else if k=11 then (if a=0 then (if q=0 then [a,b,q,e]else [a,b,dO (decide (RO e b<b)),RO e b])else [a,b,1,0])
 else [a,b,q,e]
def tpS(a b q e p r:Int):List Int:=
 let r1:=if a≠0∧p=0∧r=0 then 1 else r
 let e1:=if a≠0∧p=0∧r=0 then 0 else e
 if r1=0 then [a,b,q,e1,dO (decide (a≠0)),r1]else [a,b,dO (decide (e1<b)),RO e1 b,dO (decide (a≠0)),dO (decide (e1<b))]
def cuS(a s v q c p:Int):List Int:=
 let c1:=if s≠0 then 0 else if a≠0∧p=0∧c<9223372036854775807 then c+1 else c
 [a,s,v,dO (decide (v≤c1)),c1,dO (decide (a≠0))]
def cdS(a s v q c p:Int):List Int:=
 let c1:=if s≠0 then v else if a≠0∧p=0∧ -9223372036854775808<c then c-1 else c
 [a,s,v,dO (decide (c1≤0)),c1,dO (decide (a≠0))]
def agn(k a b q e p r:Int):List Int:=
 if k=12 then tpS a b q e p r else if k=13 then cuS a b q e p r else if k=14 then cdS a b q e p r else [a,b,q,e,p,r]
def ago(k a b q:Int):List Int:=
 if k=15 then [a,dO (decide (a≠0∧q=0)),dO (decide (a≠0))]else if k=16 then [a,dO (decide (a=0∧q≠0)),dO (decide (a≠0))]
 else if k=17 then [a,b,dO (decide (a≠0∨(q≠0∧b=0)))]else if k=18 then [a,b,dO (decide (b=0∧(q≠0∨a≠0)))]else [a,b,q]
def agp(k:Int):List Int→List Int
 |[a,b,q]=>ago k a b q
 |[a,b,q,e]=>agm k a b q e
 |[a,b,q,e,p,r]=>agn k a b q e p r
 |c=>c
end Go.Am
end
section
namespace Go.Am
inductive Ends(succ:Nat→List Nat):Nat→Prop
 |mk (i:Nat) (h:∀j∈succ i,Ends succ j):Ends succ i
inductive Way(succ:Nat→List Nat):Nat→Nat→Prop
 |one {i j} (h:j∈succ i):Way succ i j
 |more {i j k} (h:Way succ i j) (h2:k∈succ j):Way succ i k
theorem Way.trans{succ:Nat→List Nat}{i j k:Nat}(h:Way succ i j)(h2:Way succ j k):Way succ i k:=by
 induction h2 with
 |one h3=>exact .more h h3
 |more _ h3 ih=>exact .more ih h3
def fresh(seen:List Nat):Nat:=seen.countP (·== 0)
structure zi(succ:Nat→List Nat)(seen zj:List Nat):Prop where
 len:zj.length=seen.length
 ab0:∀i,zj.getD i 0=1↔seen.getD i 0=1
 black:∀i,seen.getD i 0=2→zj.getD i 0=2
 ab1:(∀i,seen.getD i 0≤2)→∀i,zj.getD i 0≤2
 ends:(∀i,seen.getD i 0=2→Ends succ i)→∀i,zj.getD i 0=2→Ends succ i
 fresh:fresh zj≤fresh seen
theorem zi.refl(succ:Nat→List Nat)(s:List Nat):zi succ s s:=⟨rfl,fun _=>Iff.rfl,fun _ h=>h,fun h=>h,fun h=>h,Nat.le_refl _⟩
theorem zi.trans{succ:Nat→List Nat}{a b c:List Nat}(h:zi succ a b)(k:zi succ b c):zi succ a c:=
 ⟨by rw[k.len,h.len],fun i=>(k.ab0 i).trans (h.ab0 i),fun i hi=>k.black i (h.black i hi),fun hv=>k.ab1 (h.ab1 hv),fun he=>k.ends (h.ends he),Nat.le_trans k.fresh h.fresh⟩
def left(g:List Bool):Nat:=g.countP (·== false)
structure vX(succ:Nat→List Nat)(s s':List Bool×Bool):Prop where
 len:s'.1.length=s.1.length
 ends:(∀i<s.1.length,s.1.getD i true=true→Ends succ i)→∀i<s.1.length,s'.1.getD i true=true→Ends succ i
 less:s'.2=true→s.2=false→left s'.1<left s.1
 le:left s'.1≤left s.1
 more:s.2=true→s'.2=true
 same:s'.2=false→s'=s
theorem vX.trans{succ:Nat→List Nat}{a b c:List Bool×Bool}(h:vX succ a b)(k:vX succ b c):vX succ a c:=
 ⟨by
  rw[k.len,h.len],fun he=>by have:=k.ends;rw[h.len]at this;exact this (h.ends he),fun h1 h2=>by
  cases hb:b.2 with
  |true=>exact Nat.lt_of_le_of_lt k.le (h.less hb h2)
  |false=>exact Nat.lt_of_lt_of_le (k.less h1 hb) h.le,Nat.le_trans k.le h.le,fun h1=>k.more (h.more h1),fun h1=>by
  cases hb:b.2 with
  |true=>rw[k.more hb]at h1;cases h1
  |false=>rw[k.same h1,h.same hb]⟩
structure ar where
 op:Int
 a:Int
 b:Int
 n:Int
 m:Int
def gG(cells at_ n:Int):Bool:=decide (0≤at_)&&decide (0≤n)&&decide (n≤cells)&&decide (at_≤cells-n)
def vY(x:ar):Bool:=
 if x.a=0 then decide (x.b=6)||decide (8≤x.b)&&decide (x.b≤18)
 else if x.a=1 then decide (x.b=7)||decide (x.b=13)||decide (x.b=14)||decide (19≤x.b)&&decide (x.b≤21)
 else false
def Ho(cells:Int)(x:ar):Bool:=decide (0≤x.n)&&decide (x.n≤x.m)&&decide (x.m≤255)&&gG cells x.a (x.m-x.n+1)
def eV(pins:Int→Nat)(cells last at_:Int)(x:ar):Bool:=
 if x.op=1∨x.op=11 then true
 else if x.op=2∨x.op=3∨x.op=6∨x.op=14 then gG cells x.a 1
 else if x.op=13 then gG cells x.a 1&&gG cells x.b 2
 else if x.op=4∨x.op=5∨x.op=7 then Ho cells x
 else if x.op=8 then vY x
 else if x.op=9∨x.op=10 then decide (0≤x.a)&&decide (x.a≤last)
 else if x.op=12 then decide (0<pins x.b)&&gG cells x.a (pins x.b)
 else if x.op=15 then decide (at_=last)
 else false
def mK(n:Nat)(t:Bool)(S:List Bool):Option (List Bool):=
 if S.length<n then none else if t&&(S.drop (S.length-n)).any (fun b=>!b)then none else some (S.take (S.length-n))
def nc(t:Bool)(S:List Bool):Option (List Bool):=if S.length<64 then some (S++[t])else none
def kz(S:List Bool):Option (List Bool):=if S=[]then some []else none
def dh(x:ar)(S:List Bool):Option (List Bool):=
 if x.op=1 then nc (decide (x.n=0)||decide (x.n=1)) S
 else if x.op=2 then nc false S
 else if x.op=3∨x.op=13∨x.op=14 then nc true S
 else if x.op=4 then (mK 1 false S).bind (nc false)
 else if x.op=5 then (mK 1 false S).bind (nc true)
 else if x.op=6 then mK 1 false S
 else if x.op=7 then mK 2 false S
 else if x.op=8 then (mK (if x.b=6∨x.b=7 then 1 else 2) (decide (x.a=1)) S).bind (nc (decide (x.b=7)||decide (13≤x.b)))
 else if x.op=10 then (mK 1 true S).bind kz
 else kz S
def agq(ins:List ar)(i:Nat):List Nat:=
 match ins[i]? with
 |none=>[]
 |some x=>if x.op=9 then [x.a.toNat]else if x.op=10 then [i+1,x.a.toNat]else if x.op=15 then []else [i+1]
end Go.Am
end
section
namespace Go.Am
open Go
noncomputable def og(X:Ctx)(f:FuncId)(c:Code)(S:St)(ds:List DF):XD:=gv fun k=>iG X f (aS X k) k c S ds
noncomputable def Cp(X:Ctx)(f:FuncId)(rv:AV)(c:Code)(S:St):Option (XE×St):=gv fun k=>mJ X f (aS X k) k rv c S
noncomputable def Ds(X:Ctx):bq:=fun g args cs=>gv fun k=>mm X k (aS X k) g args cs
abbrev yt:=XE→St→List DF→bS
noncomputable def jD(X:Ctx)(f:FuncId)(c:Code)(S:St)(ds:List DF)(k:yt):bS:=(og X f c S ds).bind fun p=>k p.1 p.2.1 p.2.2
noncomputable def vZ(X:Ctx)(md:Bool)(all ops:List Oper)(S:St)(ds:List DF)(k:yt):bS:=(fC X (ai X) md all ops S ds).bind fun p=>k p.1 p.2.1 p.2.2
noncomputable def seqKD(X:Ctx)(f:FuncId)(b:Code)(k:yt):yt
 | .normal,S,ds=>jD X f b S ds k
 |e,S,ds=>k e S ds
def leaveKD(X:Ctx)(f:FuncId)(id:Nat)(k:yt):yt
 | .normal,S,ds=>k .normal (S.leave X f id) ds
 |e,S,ds=>k e S ds
noncomputable def nextKD(X:Ctx)(md:Bool)(all r:List Oper)(ds:List DF)(k:yt):Kt
 | .normal,S=>vZ X md all r S ds k
 |e,S=>k e S ds
noncomputable def oneKD(X:Ctx)(md:Bool)(all r:List Oper)(o:Oper)(S:St)(ds:List DF)(k:yt):Option DF→bS
 |some d=>vZ X md all r (S.put o.dst true .bf) (d::ds) k
 |none=>runK X md all [o] S (nextKD X md all r ds k)
section
variable {X:Ctx} {f:FuncId} {S:St} {ds:List DF} {md:Bool}
theorem ug(all:List Oper):∀(ops:List Oper)(S:St)(ds:List DF),gv (fun k=>fC X (aS X k) md all ops S ds)=fC X (ai X) md all ops S ds
 |[],S,ds=>aQ _
 |o::r,S,ds=>by
  simp only[fC];cases ml S o with
  |some d=>exact ug all r _ _
  |none=>
   simp only[AU];rw[ek (g:=fun x n=>nT (fun S1=>fC X (aS X n) md all r S1 ds) ds x) (ri (bF X) all) (fun x=>by
    obtain⟨e,S1⟩:=x;cases e with
    |normal=>exact lS (bF X) all r S1 ds
    |_=>exact aJ.const _),EC]
   congr 1;funext x;obtain⟨e,S1⟩:=x;cases e with
   |normal=>exact ug all r S1 ds
   |_=>exact aQ _
theorem dmD(c:Code)(S:St)(ds:List DF):aJ (fun k=>iG X f (aS X k) k c S ds):=EB (bF X) f (m:=fun k=>k) (fun k=>Nat.le_succ k) c S ds
theorem RQ{a b:Code}:og X f (.seq a b) S ds=GM (og X f b) (og X f a S ds):=by
 unfold og;simp only[iG,Kc];rw[ek (g:=fun x n=>sT (iG X f (aS X n) n b) x) (dmD a S ds) (fun x=>by
  obtain⟨e,S1,s7⟩:=x;cases e with
  |normal=>exact dmD b S1 s7
  |_=>exact aJ.const _)]
 congr 1;funext x;obtain⟨e,S1,s7⟩:=x;cases e<;>first|rfl|exact aQ _
theorem lU{c:Code}(h:∀k,iG X f (aS X k) k c S ds=vH ds (den X f (aS X k) k c S)):og X f c S ds=vH ds (fT X f c S):=by
 unfold og fT;have:(fun k=>iG X f (aS X k) k c S ds)=fun k=>(den X f (aS X k) k c S).bind fun q=>dT ds q:=by
  funext k;rw[h,Dq]
 rw[this,ek (dm c S) (fun _=>aJ.const _),Dq];simp only[aQ]
theorem RR{id:Nat}{ops:Array Oper}(h:xX ops.toList=true):og X f (.region id ops false) S ds=xY (St.leave X f id) (fC X (ai X) (X.md f id) ops.toList ops.toList S ds):=by
 unfold og;have:(fun k=>iG X f (aS X k) k (.region id ops false) S ds)=fun k=>(fC X (aS X k) (X.md f id) ops.toList ops.toList S ds).bind fun q=>lT (St.leave X f id) q:=by
  funext k;simp only[iG,h,Bool.not_false,Bool.and_self,yk]
 rw[this,ek (lS (bF X) _ _ _ _) (fun _=>aJ.const _),ug,yk];simp only[aQ]
variable {k:yt}
theorem denKD_seq{a b:Code}:jD X f (.seq a b) S ds k=jD X f a S ds (seqKD X f b k):=by
 simp only[jD,RQ];rcases og X f a S ds with _|⟨e,S1,s7⟩
 ·rfl
 ·cases e<;>rfl
theorem lV{c:Code}(h:og X f c S ds=vH ds (fT X f c S)):jD X f c S ds k=aI X f c S fun e S=>k e S ds:=by
 simp only[jD,aI,h];rcases fT X f c S with _|⟨e,S1⟩<;>rfl
theorem denKD_cond{o:Operand}{a b:Code}:jD X f (.cond o a b) S ds k=aI X f (.cond o a b) S fun e S=>k e S ds:=lV (lU fun _=>rfl)
theorem denKD_ret:jD X f .ret S ds k=aI X f .ret S fun e S=>k e S ds:=lV (lU fun _=>rfl)
theorem denKD_skip:jD X f .skip S ds k=aI X f .skip S fun e S=>k e S ds:=lV (lU fun _=>rfl)
theorem denKD_loop{c:Code}:jD X f (.loop c) S ds k=aI X f (.loop c) S fun e S=>k e S ds:=lV (lU fun _=>rfl)
theorem denKD_block{id:Nat}{c:Code}:jD X f (.block id c) S ds k=aI X f (.block id c) S fun e S=>k e S ds:=lV (lU fun _=>rfl)
theorem denKD_draw{id:Nat}{ops:Array Oper}:jD X f (.region id ops true) S ds k=aI X f (.region id ops true) S fun e S=>k e S ds:=lV (lU fun _=>rfl)
theorem denKD_reg{id:Nat}{l:List Oper}:jD X f (.region id ⟨l⟩ false) S ds k=if xX l=true then vZ X (X.md f id) l l S ds (leaveKD X f id k)else aI X f (.region id ⟨l⟩ false) S fun e S=>k e S ds:=by
 split
 ·rename_i h;simp only[jD,vZ,RR (ops:=⟨l⟩) h];rcases fC X (ai X) (X.md f id) l l S ds with _|⟨e,S1,s7⟩
  ·rfl
  ·cases e<;>rfl
 ·rename_i h;exact lV (lU fun _=>by simp[iG,h])
theorem runKD_nil{all:List Oper}:vZ X md all [] S ds k=k .normal S ds:=rfl
theorem runKD_cons{all r:List Oper}{o:Oper}:vZ X md all (o::r) S ds k=oneKD X md all r o S ds k (ml S o):=by
 simp only[vZ,fC];cases ml S o with
 |some d=>rfl
 |none=>
  simp only[oneKD,runK,fo,AU,vR];rcases mj X (ai X) md all S o with _|⟨e,S1⟩
  ·rfl
  ·cases e<;>rfl
end
noncomputable def finKD(X:Ctx)(p:ay)(n0:Nat)(rs:List ResultVar):yt
 |e,S,[]=>AY X.P p n0 rs e S
 |e,S,[d]=>finD1 X p n0 rs (Ds X) S d (recA e)
 |_,_,_=>none
noncomputable def tc(X:Ctx)(f:FuncId)(rv:AV)(c:Code)(S:St)(k:Kt):bS:=(Cp X f rv c S).bind fun p=>k p.1 p.2
def finRK(P:Program)(p:ay)(n0:Nat)(rs:List ResultVar):Kt
 | .normal,S=>finish P p n0 rs S
 | .ret,S=>finish P p n0 rs S
 |_,_=>none
section
variable {X:Ctx} {f:FuncId} {S:St}
theorem pQ(X:Ctx):eH fun k=>mm X k (aS X k):=Cg (bF X) (m:=fun k=>k) (fun k=>Nat.le_succ k)
theorem JD{C:Nat→bq}(hC:eH C)(m:Mem)(k0:Nat)(g:FuncId)(ys:List AV)(mt:List Nat):gv (fun k=>callOp (C k) m k0 g ys mt)=callOp (fun g a c=>gv fun k=>C k g a c) m k0 g ys mt:=by
 unfold callOp callOp2 callOp3;simp only[ub];rw[ek (hC _ _ _) (fun _=>aJ.const _)];simp only[aQ]
theorem RS(p:ay)(n0:Nat)(rs:List ResultVar)(d:DF)(rv:Option AV):gv (fun k=>finD1 X p n0 rs (mm X k (aS X k)) S d rv)=finD1 X p n0 rs (Ds X) S d rv:=by
 cases rv with
 |none=>exact aQ _
 |some rv=>
  simp only[finD1,Kg,Kf S (callOp _ _ _ _ _ _)];rw[ek (g:=fun S _=>finish X.P p n0 rs S) ((pP (pQ X) _ _ _ _ _).bind (g:=fun c _=>memC S (some c)) fun _=>aJ.const _) (fun _=>aJ.const _),
   ek (g:=fun c _=>memC S (some c)) (pP (pQ X) _ _ _ _ _) (fun _=>aJ.const _),JD (pQ X)]
  simp only[aQ];rfl
theorem RU{fn:Func}{c:Code}{args:List AV}{cs:List aE}{n:Nat}{rs:List ResultVar}{p:ay}(uI:X.ov=none)(rN:X.wU f=none)(hf:X.P.funcs[f]?=some fn)(hb:fn.body=some c)(jc:vI c=true)(hn:fn.ntmps=n)(lI:fn.results.toList=rs)
 (hp:X.fp f=p) (cV:callOk n p args cs=true):ai X f args cs=jD X f c (entry n X.gl args cs p.sites) [] (finKD X p cs.length rs):=by
 subst hp;subst hn;subst lI;unfold ai;rw[←s8 (bF X f args cs)];have e1:(fun k=>aS X (k+1) f args cs)=fun k=>(iG X f (aS X k) k c (entry fn.ntmps X.gl args cs (X.fp f).sites) []).bind fun q=>tU X (X.fp f) cs.length fn.results.toList (mm X k (aS X k)) (some q):=by
  funext k;rw[aS,uI,rN,hf];simp only[hb,jc,uE,uD];rw[if_pos (by simpa only[callOk]using cV),Kh]
 rw[e1,ek (g:=fun q k=>tU X (X.fp f) cs.length fn.results.toList (mm X k (aS X k)) (some q)) (dmD c _ _) (fun q=>Ch (pQ X) _ _ _ q)];simp only[jD];congr 1;funext q;obtain⟨e,S1,ds⟩:=q;match ds with
 |[]=>
  simp only[tU,finKD,aQ];cases e<;>rfl
 |[d]=>exact RS _ _ _ _ _
 |_::_::_=>exact aQ _
theorem ZN{fn:Func}{c:Code}{args ys:List AV}{rv:AV}{cs:List aE}{n:Nat}{rs:List ResultVar}{p:ay}(hf:X.P.funcs[f]?=some fn)(hb:fn.body=some c)(hn:fn.ntmps=n)(lI:fn.results.toList=rs)
 (hp:X.fp f=p) (hl:args.getLast?=some rv) (hy:args.dropLast=ys) (cV:callOk n p ys cs=true):Ds X f args cs=tc X f rv c (entry n X.gl ys cs p.sites) (finRK X.P p cs.length rs):=by
 subst hp;subst hn;subst lI;subst hy;unfold Ds;have e1:(fun k=>mm X k (aS X k) f args cs)=fun k=>(mJ X f (aS X k) k rv c (entry fn.ntmps X.gl args.dropLast cs (X.fp f).sites)).bind fun q=>Ot X.P (X.fp f) cs.length fn.results.toList (some q):=by
  funext k;simp only[mm,hf,hb,uC,hl];rw[if_pos (by simpa only[callOk]using cV),Ke]
 rw[e1,ek (yl (bF X) f (m:=fun k=>k) (fun k=>Nat.le_succ k) rv c _) (fun _=>aJ.const _)];simp only[tc,aQ];congr 1;funext q;obtain⟨e,S1⟩:=q;cases e<;>rfl
variable {k:Kt} {rv:AV}
theorem denRK_seq{a b:Code}:tc X f rv (.seq a b) S k=tc X f rv a S (yo X f b k):=by
 have h:Cp X f rv (.seq a b) S=andThen (Cp X f rv a S) (fT X f b):=
  ue (F:=fun n=>mJ X f (aS X n) n rv a S) (K:=fun S' n=>den X f (aS X n) n b S') (yl (bF X) f (m:=fun k=>k) (fun k=>Nat.le_succ k) rv a S) (fun S'=>dm b S')
 simp only[tc,h,sg];congr 1;funext q;obtain⟨e,S1⟩:=q;cases e<;>rfl
theorem RV{id:Nat}{o:Oper}{r:List Oper}(h:sX o=true):tc X f rv (.region id ⟨o::r⟩ false) S k=runK X (X.md f id) (o::r) r (S.put o.dst true rv) (yp X f id k):=by
 have h1:Cp X f rv (.region id ⟨o::r⟩ false) S=tT (St.leave X f id) (fo X (ai X) (X.md f id) (o::r) r (S.put o.dst true rv)):=by
  unfold Cp;have:(fun k=>mJ X f (aS X k) k rv (.region id ⟨o::r⟩ false) S)=fun k=>(fo X (aS X k) (X.md f id) (o::r) r (S.put o.dst true rv)).bind fun q=>mT (St.leave X f id) q:=by
   funext k;simp only[mJ,h,if_true,pg]
  rw[this,ek (jP (bF X) _ _ _) (fun _=>aJ.const _),rj,pg];simp only[aQ]
 simp only[tc,runK,h1];rcases fo X (ai X) (X.md f id) (o::r) r (S.put o.dst true rv)with _|⟨e,S1⟩
 ·rfl
 ·cases e<;>rfl
end
def Ctx.over(X:Ctx)(cl:bq):Ctx:={X with ov:=some cl}
section
variable {X:Ctx} {cl C:bq} {f:FuncId}
@[simp] theorem asp:(X.over cl).P=X.P:=rfl
@[simp] theorem apL:(X.over cl).gl=X.gl:=rfl
@[simp] theorem ajw:(X.over cl).o6=X.o6:=rfl
@[simp] theorem apM:(X.over cl).gh=X.gh:=rfl
@[simp] theorem apN:(X.over cl).md=X.md:=rfl
@[simp] theorem apO:(X.over cl).fp=X.fp:=rfl
@[simp] theorem apP:(X.over cl).od=X.od:=rfl
@[simp] theorem apQ:(X.over cl).fl=X.fl:=rfl
@[simp] theorem agr:ai (X.over cl)=cl:=by
 funext g a c;unfold ai;rw[←s8 (bF (X.over cl) g a c)];have:(fun n=>aS (X.over cl) (n+1) g a c)=fun _=>cl g a c:=rfl;rw[this,aQ]
end
inductive PR(ε σ α:Type) where
 |ok (a:α) (s:σ)
 |bad (e:ε) (s:σ)
 |out
section
variable {ε σ α β γ:Type}
def PR.el(r:PR ε σ α)(f:α→σ→Option β)(g:ε→σ→Option β):Option β:=
 match r with
 | .ok a s=>f a s
 | .bad e s=>g e s
 | .out=>none
@[simp] theorem au6{a:α}{s:σ}{f:α→σ→Option β}{g:ε→σ→Option β}:(PR.ok a s).el f g=f a s:=rfl
@[simp] theorem asq{e:ε}{s:σ}{f:α→σ→Option β}{g:ε→σ→Option β}:(PR.bad e s).el f g=g e s:=rfl
@[simp] theorem asr{f:α→σ→Option β}{g:ε→σ→Option β}:(PR.out:PR ε σ α).el f g=none:=rfl
@[simp] theorem ass{c:Prop}[Decidable c]{a b:PR ε σ α}{f:α→σ→Option β}{g:ε→σ→Option β}:(if c then a else b).el f g=if c then a.el f g else b.el f g:=by split<;>rfl
def PR.bind(r:PR ε σ α)(k:α→σ→PR ε σ γ):PR ε σ γ:=
 match r with
 | .ok a s=>k a s
 | .bad e s=>.bad e s
 | .out=>.out
@[simp] theorem apR{a:α}{s:σ}{k:α→σ→PR ε σ γ}:(PR.ok a s).bind k=k a s:=rfl
@[simp] theorem alr{e:ε}{s:σ}{k:α→σ→PR ε σ γ}:(PR.bad e s:PR ε σ α).bind k=.bad e s:=rfl
@[simp] theorem als{k:α→σ→PR ε σ γ}:(PR.out:PR ε σ α).bind k=.out:=rfl
@[simp] theorem apS{r:PR ε σ α}{k:α→σ→PR ε σ γ}{f:γ→σ→Option β}{g:ε→σ→Option β}:(r.bind k).el f g=r.el (fun a s=>(k a s).el f g) g:=by cases r<;>rfl
@[simp] theorem au7{r:PR ε σ α}{f:α→σ→Option β}{g:ε→σ→Option β}:r.el (fun a s=>f a s) (fun e s=>g e s)=r.el f g:=rfl
theorem el_frz{n0:Nat}{b:Bool}{r:PR ε σ α}{f:α→σ→bS}{g:ε→σ→bS}:frzR n0 b (r.el f g)=r.el (fun a s=>frzR n0 b (f a s)) (fun e s=>frzR n0 b (g e s)):=by cases r<;>rfl
theorem el_back{m:Mem}{k0:Nat}{ρ B:List Nat}{r:PR ε σ α}{f:α→σ→bS}{g:ε→σ→bS}:callBack m k0 ρ B (r.el f g)=r.el (fun a s=>callBack m k0 ρ B (f a s)) (fun e s=>callBack m k0 ρ B (g e s)):=by cases r<;>rfl
theorem el_callK{X:Ctx}{md:Bool}{S:St}{d:Option Nat}{all q:List Oper}{k:Kt}{r:PR ε σ α}{f:α→σ→Option fK}{g:ε→σ→Option fK}:callK X md S d all q k (r.el f g)=r.el (fun a s=>callK X md S d all q k (f a s)) (fun e s=>callK X md S d all q k (g e s)):=by cases r<;>rfl
theorem el_dcallK{X:Ctx}{md:Bool}{nd:Nat×List (List Nat)}{S:St}{d:Option Nat}{all q:List Oper}{acc:List aU}{k:Kt}{r:PR ε σ α}{f:α→σ→Option fK}{g:ε→σ→Option fK}:dcallK X md nd S d all q acc k (r.el f g)=r.el (fun a s=>dcallK X md nd S d all q acc k (f a s)) (fun e s=>dcallK X md nd S d all q acc k (g e s)):=by cases r<;>rfl
def Le(a b:Option β):Prop:=∀r,a=some r→b=some r
theorem Le.refl(a:Option β):Le a a:=fun _ h=>h
theorem Le.trans{a b c:Option β}(h:Le a b)(k:Le b c):Le a c:=fun r hr=>k r (h r hr)
theorem Le.none{b:Option β}:Le none b:=fun _ h=>by cases h
theorem Le.el{r:PR ε σ α}{f f':α→σ→Option β}{g g':ε→σ→Option β}(hf:∀a s,Le (f a s) (f' a s))(hg:∀e s,Le (g e s) (g' e s)):Le (r.el f g) (r.el f' g'):=by
 cases r with
 |ok a s=>exact hf a s
 |bad e s=>exact hg e s
 |out=>exact Le.none
end
end Go.Am
end
section
namespace Go.Am
abbrev Tx:=List UInt8
def pk(c:UInt8):Bool:=decide (65≤c.toNat)&&decide (c.toNat≤90)||decide (97≤c.toNat)&&decide (c.toNat≤122)
def oh(c:UInt8):Bool:=decide (48≤c.toNat)&&decide (c.toNat≤57)
def eW(c:UInt8):Bool:=pk c||oh c||decide (c.toNat=95)
def uK(c:UInt8):Bool:=decide (c.toNat=32)||decide (c.toNat=10)||decide (c.toNat=9)
def fU(c:UInt8):Nat:=if oh c then c.toNat-48 else if 65≤c.toNat∧c.toNat≤70 then c.toNat-65+10 else 99
def jE(p:Int×Int)(c:UInt8):Int×Int:=if c=10 then (p.1+1,1)else (p.1,p.2+1)
def fW(s:Tx):Int×Int:=s.foldl jE (1,1)
theorem Cq:∀(s:Tx)(p:Int×Int)(n:Nat),1≤p.1→p.1≤n→1≤p.2→p.2≤n→1≤(s.foldl jE p).1∧(s.foldl jE p).1≤n+s.length∧1≤(s.foldl jE p).2∧(s.foldl jE p).2≤n+s.length
 |[],p,n,h1,h2,h3,h4=>by simp;omega
 |c::r,p,n,h1,h2,h3,h4=>by
  have h:=Cq r (jE p c) (n+1) (by unfold jE;split<;>simp<;>omega) (by unfold jE;split<;>simp<;>omega) (by unfold jE;split<;>simp<;>omega) (by unfold jE;split<;>simp<;>omega);simp only[List.foldl_cons,List.length_cons];omega
theorem RW{s:Tx}{i:Nat}:1≤(fW (s.take i)).1∧(fW (s.take i)).1≤s.length+1∧1≤(fW (s.take i)).2∧(fW (s.take i)).2≤s.length+1:=by
 have h:=Cq (s.take i) (1,1) 1 (by simp) (by simp) (by simp) (by simp);have hl:(s.take i).length≤s.length:=by simp;omega
 unfold fW;omega
theorem yu{s:Tx}{i:Nat}(h:i<s.length):fW (s.take (i+1))=jE (fW (s.take i)) s[i]:=by
 unfold fW;rw[List.take_add_one,List.getElem?_eq_getElem h,List.foldl_append];rfl
def mn:Tx→Option Nat
 |[]=>none
 |c::r=>if c=42∧r.head?=some 41 then some 0 else (mn r).map (·+1)
def iC(s:Tx):Nat:=(s.takeWhile (·≠10)).length
theorem Hp(s:Tx):iC s≤s.length:=by unfold iC;exact (List.takeWhile_prefix _).length_le
theorem WW(a c:UInt8):(a == c)=decide (c=a):=by
 by_cases h:c=a
 ·simp[h]
 ·simp[h];exact fun e=>h e.symm
theorem uL:∀(t:Tx),Go.Lib.indexByte t 10=if iC t<t.length then (iC t:Int)else-1
 |[]=>rfl
 |c::r=>by
  have ih:=uL r;unfold Go.Lib.indexByte;by_cases hc:c=10
  ·subst hc;simp[iC]
  ·have e:iC (c::r)=iC r+1:=by simp[iC,hc]
   rw[e,ih];simp only[beq_iff_eq,hc,if_false,List.length_cons];by_cases h:iC r<r.length
   ·simp only[if_pos h];rw[if_neg (by omega),if_pos (by omega)];omega
   ·simp[h]
theorem v7:∀{t:Tx}{m:Nat},mn t=some m→m+2≤t.length
 |[],m,h=>by cases h
 |c::r,m,h=>by
  unfold mn at h;split at h
  ·rename_i hc;cases h;cases r with
   |nil=>simp at hc
   |cons d r=>simp
  ·cases hf:mn r with
   |none=>rw[hf]at h;cases h
   |some n=>
    rw[hf]at h;cases h;have:=v7 hf;simp;omega
theorem EE:∀(t:Tx),Go.Lib.index t [42,41]=match mn t with|none=> -1|some m=>(m:Int)
 |[]=>rfl
 |c::r=>by
  have ih:=EE r;unfold Go.Lib.index mn;have e:(([42,41]:Tx).isPrefixOf (c::r))=decide (c=42∧r.head?=some 41):=by
   cases r with
   |nil=>simp[List.isPrefixOf]
   |cons d r=>simp[List.isPrefixOf,WW]
  rw[e,ih];by_cases hc:c=42∧r.head?=some 41
  ·simp[hc]
  ·rw[if_neg hc];simp only[hc,decide_false,Bool.false_eq_true,if_false];cases hf:mn r with
   |none=>simp
   |some n=>simp
theorem Cr(a b c:UInt8)(r:Tx):Go.Lib.hasPrefix (c::r) [a,b]=(decide (c=a)&&decide (r.head?=some b)):=by
 unfold Go.Lib.hasPrefix;cases r with
 |nil=>simp[List.isPrefixOf]
 |cons d r=>simp[List.isPrefixOf,WW]
def fE:Nat→Tx→Nat×Bool
 |0,_=>(0,true)
 |_+1,[]=>(0,true)
 |f+1,c::r=>
  if uK c then (1+(fE f r).1,(fE f r).2)
  else if c=47∧r.head?=some 47 then (iC (c::r)+(fE f ((c::r).drop (iC (c::r)))).1,(fE f ((c::r).drop (iC (c::r)))).2)
  else if c=40∧r.head?=some 42 then match mn r.tail with
   |none=>(0,false)
   |some m=>(m+4+(fE f ((c::r).drop (m+4))).1,(fE f ((c::r).drop (m+4))).2)
  else (0,true)
def nf(s:Tx):Nat×Nat:=if [49,54,35].isPrefixOf s then (16,3)else if [56,35].isPrefixOf s then (8,2)else if [50,35].isPrefixOf s then (2,2)else (10,0)
def Dt(base:Nat):Nat→Tx→Option Nat
 |x,[]=>some x
 |x,c::r=>if (9223372036854775807-fU c)/base<x then none else Dt base (x*base+fU c) r
def A0(s:Tx)(b h:Nat)(ds:Tx):Nat×Nat×Nat:=
 if ds=[]∨(∃c,s[h+ds.length]?=some c∧(eW c=true∨c=35))then (0,0,5)
 else match Dt b 0 ds with
  |none=>(0,0,2)
  |some x=>(h+ds.length,x,0)
def mL(s:Tx):Nat×Nat×Nat:=A0 s (nf s).1 (nf s).2 ((s.drop (nf s).2).takeWhile (fun c=>decide (fU c<(nf s).1)))
def yw:Tx:=[43,45,42,47,40,41,91,93,46,44,59,58,60,62,61]
def Hq:List Tx:=[[58,61],[60,61],[62,61],[60,62],[46,46]]
def rk(s:Tx):Nat:=if Hq.any (fun p=>p.isPrefixOf s)then 2 else match s with
 |[]=>0
 |c::_=>if c∈yw then 1 else 0
theorem zn:∀(f:Nat)(t:Tx),(fE f t).1≤t.length
 |0,_=>by simp[fE]
 |_+1,[]=>by simp[fE]
 |f+1,c::r=>by
  unfold fE;split
  ·have:=zn f r;simp;omega
  ·split
   ·have h1:=zn f ((c::r).drop (iC (c::r)));have h2:=Hp (c::r);simp only[List.length_drop]at h1;simp only;omega
   ·split
    ·split
     ·simp
     ·rename_i m hm;have h1:=zn f ((c::r).drop (m+4));have h2:=v7 hm;have h3:r.tail.length=r.length-1:=by simp
      simp only[List.length_drop,List.length_cons]at h1⊢;omega
    ·simp
def RX:Tx:=[80,82,79,71,82,65,77,32,69,78,68,95,80,82,79,71,82,65,77,32,86,65,82,32,86,65,82,95,73,78,80,85,84,32,86,65,82,95,79,85,84,80,85,84,32,69,78,68,95,86,65,82,32,73,78,84,32,66,79,79,76,32,65,82,82,65,89,32,79,70,32,84,82,85,69,32,70,65,76,83,69,32,73,70,32,84,72,69,78,32,69,76,83,73,70,32,69,76,83,69,32,69,78,68,95,73,70,32,67,65,83,69,32,69,78,68,95,67,65,83,69,32,70,79,82,32,84,79,32,66,89,32,68,79,32,69,78,68,95,70,79,82,32,87,72,73,76,69,32,69,78,68,95,87,72,73,76,69,32,82,69,80,69,65,84,32,85,78,84,73,76,32,69,78,68,95,82,69,80,69,65,84,32,69,88,73,84,32,82,69,84,85,82,78,32,65,78,68,32,79,82,32,88,79,82,32,78,79,84,32,77,79,68]
def jF:List Tx:=[[80,82,79,71,82,65,77],[69,78,68,95,80,82,79,71,82,65,77],[86,65,82],[86,65,82,95,73,78,80,85,84],[86,65,82,95,79,85,84,80,85,84],[69,78,68,95,86,65,82],[73,78,84],[66,79,79,76],[65,82,82,65,89],[79,70],[84,82,85,69],[70,65,76,83,69],[73,70],[84,72,69,78],[69,76,83,73,70],[69,76,83,69],[69,78,68,95,73,70],[67,65,83,69],[69,78,68,95,67,65,83,69],[70,79,82],[84,79],[66,89],[68,79],[69,78,68,95,70,79,82],[87,72,73,76,69],[69,78,68,95,87,72,73,76,69],[82,69,80,69,65,84],[85,78,84,73,76],[69,78,68,95,82,69,80,69,65,84],[69,88,73,84],[82,69,84,85,82,78],[65,78,68],[79,82],[88,79,82],[78,79,84],[77,79,68]]
def te(s:Tx):Bool:=decide (s∈jF)
structure fg where
 kind:Int
 text:Tx
 n:Int
 line:Int
 Cs:Int
 deriving DecidableEq
def j7(s:Tx):Nat×Nat×Nat×Nat:=
 match s with
 |[]=>(5,0,0,0)
 |c::_=>
  if pk c then
   if te (s.take (s.takeWhile eW).length)then (0,2,(s.takeWhile eW).length,0)
   else if 16<(s.takeWhile eW).length then (9,1,0,0)else (0,1,(s.takeWhile eW).length,0)
  else if oh c then
   if (mL s).2.2=0 then (0,3,(mL s).1,(mL s).2.1)else ((mL s).2.2,0,0,0)
  else if rk s=0 then (5,0,0,0)else (0,4,rk s,0)
def here(p:Int×Int):fg:=⟨0,[],0,p.1,p.2⟩
def A1(s:Tx):Nat→Nat→List fg→List fg×Nat×fg
 |0,_,_=>([],5,⟨0,[],0,0,0⟩)
 |f+1,i,out=>
  if (fE (s.length+1) (s.drop i)).2=false then ([],5,here (fW (s.take (i+(fE (s.length+1) (s.drop i)).1))))
  else if s.drop (i+(fE (s.length+1) (s.drop i)).1)=[]then (out++[here (fW (s.take (i+(fE (s.length+1) (s.drop i)).1)))],0,⟨0,[],0,0,0⟩)
  else if (j7 (s.drop (i+(fE (s.length+1) (s.drop i)).1))).1≠0 then ([],(j7 (s.drop (i+(fE (s.length+1) (s.drop i)).1))).1,here (fW (s.take (i+(fE (s.length+1) (s.drop i)).1))))
  else A1 s f (i+(fE (s.length+1) (s.drop i)).1+(j7 (s.drop (i+(fE (s.length+1) (s.drop i)).1))).2.2.1)
   (out++[⟨(j7 (s.drop (i+(fE (s.length+1) (s.drop i)).1))).2.1,(s.drop (i+(fE (s.length+1) (s.drop i)).1)).take (j7 (s.drop (i+(fE (s.length+1) (s.drop i)).1))).2.2.1,(j7 (s.drop (i+(fE (s.length+1) (s.drop i)).1))).2.2.2,
    (fW (s.take (i+(fE (s.length+1) (s.drop i)).1))).1,(fW (s.take (i+(fE (s.length+1) (s.drop i)).1))).2⟩])
def Du(s:Tx):List fg×Nat×fg:=if 16384<s.length then ([],13,⟨0,[],0,1,1⟩)else A1 s (s.length+1) 0 []
end Go.Am
end
section
namespace Go.Am
open Go
inductive Ex where
 |mk (op n:Int) (name field:Tx) (sub:List Ex) (line:Int)
inductive Sm where
 |mk (op:Int) (name:Tx) (to val:Ex) (conds:List Ex) (labels:List (List Int)) (fields:List Tx) (blocks:List (List Sm)) (line:Int)
instance:Inhabited Ex:=⟨.mk 0 0 [] [] [] 0⟩
instance:Inhabited Sm:=⟨.mk 0 [] default default [] [] [] [] 0⟩
structure Vr where
 name:Tx
 ty:Int
 sec:Int
 arr:Bool
 lo:Int
 hi:Int
 init:Int
 line:Int
 deriving DecidableEq
structure Pg where
 name:Tx
 vars:List Vr
 body:List Sm
mutual
def bM:Ex→D
 | .mk op n name field sub line=>.agg [.int .i64 op,.int .i64 n,.str name,.str field,.list (ga sub),.int .i64 line]
def ga:List Ex→List D
 |[]=>[]
 |x::r=>bM x::ga r
end
theorem ry:∀l:List Ex,ga l=l.map bM
 |[]=>rfl
 |x::r=>by simp[ga,ry r]
def uM:Ex→List D
 | .mk op n name field sub line=>[.int .i64 op,.int .i64 n,.str name,.str field,.list (ga sub),.int .i64 line]
theorem FC(x:Ex):bM x=.agg (uM x):=by cases x;rfl
def mC(l:List Int):D:=.list (l.map fun n=>.int .i64 n)
mutual
def b5:Sm→D
 | .mk op name to val conds labels fields blocks line=>.agg (.int .i64 op::.str name::(uM to++(uM val++[.list (ga conds),.list (labels.map mC),.list (fields.map .str),.list (kA blocks),.int .i64 line])))
def kB:List Sm→List D
 |[]=>[]
 |x::r=>b5 x::kB r
def kA:List (List Sm)→List D
 |[]=>[]
 |b::r=>.list (kB b)::kA r
end
theorem pn:∀l:List Sm,kB l=l.map b5
 |[]=>rfl
 |x::r=>by simp[kB,pn r]
theorem zp:∀l:List (List Sm),kA l=l.map fun b=>.list (b.map b5)
 |[]=>rfl
 |x::r=>by simp[kA,zp r,pn]
def eD(v:Vr):List D:=[.str v.name,.int .i64 v.ty,.int .i64 v.sec,.bool v.arr,.int .i64 v.lo,.int .i64 v.hi,.int .i64 v.init,.int .i64 v.line]
def bI(v:Vr):D:=.agg (eD v)
structure PS where
 at_:Nat
 deep:Int
 vars:List Vr
structure Er where
 e:Int
 line:Int
 Cs:Int
 deriving DecidableEq
abbrev PM(α:Type):=PR Er PS α
abbrev wr(n:Int):Int:=IntKind.i64.wrap n
section
variable (L:List fg)
def sh(s:PS):PM fg:=match L[s.at_]? with
 |some t=>.ok t s
 |none=>.out
def ON{α:Type}(e:Int)(t:fg)(s:PS):PM α:=.bad ⟨e,t.line,t.Cs⟩ s
def isW(t:fg)(w:Tx):Bool:=(decide (t.kind=2)||decide (t.kind=4))&&decide (t.text=w)
def isS(w:Tx)(s:PS):PM Bool:=(sh L s).bind fun t s=>.ok (isW t w) s
def anyS:List Tx→PS→PM Bool
 |[],s=>.ok false s
 |w::r,s=>(isS L w s).bind fun b s=>if b=true then .ok true s else anyS r s
def zq(s:PS):PM fg:=(sh L s).bind fun t s=>.ok t (if t.kind=0 then s else {s with at_:=s.at_+1})
def jQ(w:Tx)(s:PS):PM Bool:=(isS L w s).bind fun b s=>if b=true then (zq L s).bind fun _ s=>.ok true s else .ok false s
def iE(w:Tx)(s:PS):PM Unit:=(jQ L w s).bind fun b s=>if b=true then .ok () s else (sh L s).bind fun t s=>ON 5 t s
def v8(k:Int)(s:PS):PM fg:=(sh L s).bind fun t s=>if t.kind=k then zq L s else (sh L s).bind fun t s=>ON 5 t s
def WX(s:PS):PM Unit:=if 32<wr (s.deep+1)then (sh L {s with deep:=wr (s.deep+1)}).bind fun t s=>ON 13 t s else .ok () {s with deep:=wr (s.deep+1)}
def OO(s:PS):PM Unit:=.ok () {s with deep:=wr (s.deep-1)}
structure Kd where
 at_:fg
 kind:Int
 arr:Bool
 lo:Int
 hi:Int
def Kk(s:PS):PM Int:=(jQ L [45] s).bind fun b s=>if b=true then (v8 L 3 s).bind fun t s=>.ok (wr (-t.n)) s else (v8 L 3 s).bind fun t s=>.ok t.n s
def lvT:List (List Tx):=[[[79,82]],[[88,79,82]],[[65,78,68]],[[61],[60,62],[60],[62],[60,61],[62,61]],[[43],[45]],[[42],[47],[77,79,68]]]
def opT:List Tx:=[[43],[45],[42],[47],[77,79,68],[61],[60,62],[60],[62],[60,61],[62,61],[65,78,68],[88,79,82],[79,82]]
def ab3(w:Tx):List Tx→Nat→Int
 |[],_=> -1
 |x::r,i=>if w=x then i else ab3 w r (i+1)
def opI(w:Tx):Int:=8+ab3 w opT 0
def uN:Ex:=.mk 0 0 [] [] [] 0
def WY(t:fg):Ex:=.mk 3 0 t.text [] [] t.line
def Ct(op:Int)(nm:Tx)(l:List Ex)(line:Int):Ex:=.mk op 0 nm [] l line
def EG(s:PS):PM Bool:=(sh L s).bind fun t s=>if t.kind=3 then .ok true s else isS L [45] s
def Kl:Nat→List Int→PS→PM (List Int)
 |0,_,_=>.out
 |f+1,l,s=>(Kk L s).bind fun lo s=>(jQ L [46,46] s).bind fun b s=>(if b=true then Kk L s else .ok lo s).bind fun hi s=>
  if l.length<100000 then (jQ L [44] s).bind fun b s=>if b=true then Kl f (l++[lo,hi]) s else (iE L [58] s).bind fun _ s=>.ok (l++[lo,hi]) s else .out
def UW(s:PS):PM Bool:=(EG L s).bind fun b s=>if b=true then .ok true s else (isS L [69,76,83,69] s).bind fun b s=>if b=true then .ok true s else isS L [69,78,68,95,67,65,83,69] s
mutual
def si:Nat→Nat→PS→PM Ex
 |0,_,_=>.out
 |f+1,n,s=>if n=6 then uO f s else if n<6 then (si f (n+1) s).bind fun x s=>yx f n x s else .out
def yx:Nat→Nat→Ex→PS→PM Ex
 |0,_,_,_=>.out
 |f+1,n,x,s=>(anyS L (lvT.getD n []) s).bind fun b s=>if b=true then (zq L s).bind fun t s=>(si f (n+1) s).bind fun y s=>
  if n=3 then .ok (Ct (opI t.text) [] [x,y] t.line) s else yx f n (Ct (opI t.text) [] [x,y] t.line) s
  else .ok x s
def uO:Nat→PS→PM Ex
 |0,_=>.out
 |f+1,s=>(sh L s).bind fun t s=>(isS L [45] s).bind fun b s=>
  if b=true then Cu f 6 t s else (isS L [78,79,84] s).bind fun b s=>if b=true then Cu f 7 t s else uP f s
def Cu:Nat→Int→fg→PS→PM Ex
 |0,_,_,_=>.out
 |f+1,op,t,s=>(WX L s).bind fun _ s=>(zq L s).bind fun _ s=>(uO f s).bind fun x s=>(OO s).bind fun _ s=>.ok (Ct op [] [x] t.line) s
def kT:Nat→PS→PM Ex
 |0,_=>.out
 |f+1,s=>si f 0 s
def uQ:Nat→PS→PM Ex
 |0,_=>.out
 |f+1,s=>(WX L s).bind fun _ s=>(iE L [91] s).bind fun _ s=>(kT f s).bind fun x s=>(iE L [93] s).bind fun _ s=>(OO s).bind fun _ s=>.ok x s
def uP:Nat→PS→PM Ex
 |0,_=>.out
 |f+1,s=>(sh L s).bind fun t s=>
  if t.kind=3 then (zq L s).bind fun u s=>.ok (.mk 1 u.n [] [] [] t.line) s else
  (jQ L [84,82,85,69] s).bind fun b s=>if b=true then .ok (.mk 2 1 [] [] [] t.line) s else
  (jQ L [70,65,76,83,69] s).bind fun b s=>if b=true then .ok (.mk 2 0 [] [] [] t.line) s else
  (isS L [40] s).bind fun b s=>if b=true then (WX L s).bind fun _ s=>(zq L s).bind fun _ s=>(kT f s).bind fun x s=>(iE L [41] s).bind fun _ s=>(OO s).bind fun _ s=>.ok x s else
  (v8 L 1 s).bind fun _ s=>
  (isS L [91] s).bind fun b s=>if b=true then (uQ f s).bind fun x s=>.ok (Ct 4 t.text [x] t.line) s else
  (jQ L [46] s).bind fun b s=>if b=true then (v8 L 1 s).bind fun u s=>.ok (.mk 5 0 t.text u.text [] t.line) s else .ok (WY t) s
end
def ab4(op:Int):Sm:=.mk op [] uN uN [] [] [] [] 0
def alu(line:Int):Sm→Sm
 | .mk op name to val conds labels fields blocks _=>.mk op name to val conds labels fields blocks line
mutual
def mY:Nat→List Tx→PS→PM (List Sm)
 |0,_,_=>.out
 |f+1,ends,s=>uR f ends [] s
def uR:Nat→List Tx→List Sm→PS→PM (List Sm)
 |0,_,_,_=>.out
 |f+1,ends,l,s=>(anyS L ends s).bind fun b s=>if b=true then .ok l s else (zr f s).bind fun x s=>if l.length<100000 then uR f ends (l++[x]) s else .out
def zr:Nat→PS→PM Sm
 |0,_=>.out
 |f+1,s=>(sh L s).bind fun t s=>(WX L s).bind fun _ s=>(Cv f s).bind fun x s=>(iE L [59] s).bind fun _ s=>(OO s).bind fun _ s=>.ok (alu t.line x) s
def Cv:Nat→PS→PM Sm
 |0,_=>.out
 |f+1,s=>
  (jQ L [73,70] s).bind fun b s=>if b=true then qm f s else
  (jQ L [67,65,83,69] s).bind fun b s=>if b=true then yy f s else
  (jQ L [70,79,82] s).bind fun b s=>if b=true then sj f s else
  (jQ L [87,72,73,76,69] s).bind fun b s=>if b=true then (kT L f s).bind fun v s=>(iE L [68,79] s).bind fun _ s=>(mY f [[69,78,68,95,87,72,73,76,69]] s).bind fun l s=>(iE L [69,78,68,95,87,72,73,76,69] s).bind fun _ s=>.ok (.mk 5 [] uN v [] [] [] [l] 0) s else
  (jQ L [82,69,80,69,65,84] s).bind fun b s=>if b=true then (mY f [[85,78,84,73,76]] s).bind fun l s=>(iE L [85,78,84,73,76] s).bind fun _ s=>(kT L f s).bind fun v s=>(iE L [69,78,68,95,82,69,80,69,65,84] s).bind fun _ s=>.ok (.mk 6 [] uN v [] [] [] [l] 0) s else
  (jQ L [69,88,73,84] s).bind fun b s=>if b=true then .ok (ab4 7) s else
  (jQ L [82,69,84,85,82,78] s).bind fun b s=>if b=true then .ok (ab4 8) s else
  (v8 L 1 s).bind fun nm s=>(jQ L [40] s).bind fun b s=>if b=true then Cw f nm.text s else
  (isS L [91] s).bind fun b s=>(if b=true then (uQ L f s).bind fun x s=>.ok (Ct 4 nm.text [x] nm.line) s else .ok (WY nm) s).bind fun to s=>
  (iE L [58,61] s).bind fun _ s=>(kT L f s).bind fun v s=>.ok (.mk 1 [] to v [] [] [] [] 0) s
def qm:Nat→PS→PM Sm
 |0,_=>.out
 |f+1,s=>lW f [] [] s
def lW:Nat→List Ex→List (List Sm)→PS→PM Sm
 |0,_,_,_=>.out
 |f+1,c,l,s=>(kT L f s).bind fun x s=>(iE L [84,72,69,78] s).bind fun _ s=>(mY f [[69,76,83,73,70],[69,76,83,69],[69,78,68,95,73,70]] s).bind fun b s=>
  if c.length<100000∧l.length<100000 then (jQ L [69,76,83,73,70] s).bind fun m s=>if m=true then lW f (c++[x]) (l++[b]) s else
   (jQ L [69,76,83,69] s).bind fun m s=>(if m=true then (mY f [[69,78,68,95,73,70]] s).bind fun z s=>.ok (l++[b]++[z]) s else .ok (l++[b]) s).bind fun l s=>(iE L [69,78,68,95,73,70] s).bind fun _ s=>.ok (.mk 2 [] uN uN (c++[x]) [] [] l 0) s
  else .out
def yy:Nat→PS→PM Sm
 |0,_=>.out
 |f+1,s=>(kT L f s).bind fun v s=>(iE L [79,70] s).bind fun _ s=>sk f v [] [] s
def sk:Nat→Ex→List (List Int)→List (List Sm)→PS→PM Sm
 |0,_,_,_,_=>.out
 |f+1,v,c,l,s=>(EG L s).bind fun b s=>
  if b=true then (Kl L f [] s).bind fun x s=>(wa f [] s).bind fun b s=>if c.length<100000∧l.length<100000 then sk f v (c++[x]) (l++[b]) s else .out
  else (jQ L [69,76,83,69] s).bind fun m s=>(if m=true then (mY f [[69,78,68,95,67,65,83,69]] s).bind fun z s=>if l.length<100000 then .ok (l++[z]) s else .out else .ok l s).bind fun l s=>(iE L [69,78,68,95,67,65,83,69] s).bind fun _ s=>.ok (.mk 3 [] uN v [] c [] l 0) s
def wa:Nat→List Sm→PS→PM (List Sm)
 |0,_,_=>.out
 |f+1,l,s=>(UW L s).bind fun b s=>if b=true then .ok l s else (zr f s).bind fun x s=>if l.length<100000 then wa f (l++[x]) s else .out
def sj:Nat→PS→PM Sm
 |0,_=>.out
 |f+1,s=>(v8 L 1 s).bind fun nm s=>(iE L [58,61] s).bind fun _ s=>(kT L f s).bind fun a s=>(iE L [84,79] s).bind fun _ s=>(kT L f s).bind fun b s=>
  (sh L s).bind fun t s=>(jQ L [66,89] s).bind fun m s=>(if m=true then kT L f s else .ok (.mk 1 1 [] [] [] t.line) s).bind fun c s=>
  (iE L [68,79] s).bind fun _ s=>(mY f [[69,78,68,95,70,79,82]] s).bind fun l s=>(iE L [69,78,68,95,70,79,82] s).bind fun _ s=>.ok (.mk 4 nm.text uN uN [a,b,c] [] [] [l] 0) s
def Cw:Nat→Tx→PS→PM Sm
 |0,_,_=>.out
 |f+1,nm,s=>(jQ L [41] s).bind fun b s=>if b=true then .ok (.mk 9 nm uN uN [] [] [] [] 0) s else wb f nm [] [] s
def wb:Nat→Tx→List Tx→List Ex→PS→PM Sm
 |0,_,_,_,_=>.out
 |f+1,nm,c,l,s=>(v8 L 1 s).bind fun t s=>(iE L [58,61] s).bind fun _ s=>(kT L f s).bind fun x s=>
  if c.length<100000∧l.length<100000 then (jQ L [44] s).bind fun b s=>if b=true then wb f nm (c++[t.text]) (l++[x]) s else (iE L [41] s).bind fun _ s=>.ok (.mk 9 nm uN uN (l++[x]) [] (c++[t.text]) [] 0) s
  else .out
end
end
def bW:Ex→Int| .mk a _ _ _ _ _=>a
def ic:Ex→Int| .mk _ a _ _ _ _=>a
def dA:Ex→Tx| .mk _ _ a _ _ _=>a
def fq:Ex→Tx| .mk _ _ _ a _ _=>a
def cN:Ex→List Ex| .mk _ _ _ _ a _=>a
def jG:Ex→Int| .mk _ _ _ _ _ a=>a
@[simp] theorem mZ{a b c d e f}:bW (.mk a b c d e f)=a:=rfl
@[simp] theorem uS{a b c d e f}:ic (.mk a b c d e f)=b:=rfl
@[simp] theorem yz{a b c d e f}:dA (.mk a b c d e f)=c:=rfl
@[simp] theorem Hr{a b c d e f}:fq (.mk a b c d e f)=d:=rfl
@[simp] theorem m4{a b c d e f}:cN (.mk a b c d e f)=e:=rfl
@[simp] theorem RY{a b c d e f}:jG (.mk a b c d e f)=f:=rfl
theorem WZ(x:Ex):uM x=[.int .i64 (bW x),.int .i64 (ic x),.str (dA x),.str (fq x),.list ((cN x).map bM),.int .i64 (jG x)]:=by cases x;simp[uM,ry]
theorem aD(x:Ex):bM x=.agg [.int .i64 (bW x),.int .i64 (ic x),.str (dA x),.str (fq x),.list ((cN x).map bM),.int .i64 (jG x)]:=by rw[FC,WZ]
def bu:Sm→Int| .mk a _ _ _ _ _ _ _ _=>a
def gU:Sm→Tx| .mk _ a _ _ _ _ _ _ _=>a
def eI:Sm→Ex| .mk _ _ a _ _ _ _ _ _=>a
def dM:Sm→Ex| .mk _ _ _ a _ _ _ _ _=>a
def cy:Sm→List Ex| .mk _ _ _ _ a _ _ _ _=>a
def ee:Sm→List (List Int)| .mk _ _ _ _ _ a _ _ _=>a
def dR:Sm→List Tx| .mk _ _ _ _ _ _ a _ _=>a
def bj:Sm→List (List Sm)| .mk _ _ _ _ _ _ _ a _=>a
def kC:Sm→Int| .mk _ _ _ _ _ _ _ _ a=>a
@[simp] theorem RZ{a b c d e f g h i}:bu (.mk a b c d e f g h i)=a:=rfl
@[simp] theorem ab5{a b c d e f g h i}:gU (.mk a b c d e f g h i)=b:=rfl
@[simp] theorem asw{a b c d e f g h i}:eI (.mk a b c d e f g h i)=c:=rfl
@[simp] theorem asx{a b c d e f g h i}:dM (.mk a b c d e f g h i)=d:=rfl
@[simp] theorem R0{a b c d e f g h i}:cy (.mk a b c d e f g h i)=e:=rfl
@[simp] theorem apT{a b c d e f g h i}:ee (.mk a b c d e f g h i)=f:=rfl
@[simp] theorem R3{a b c d e f g h i}:dR (.mk a b c d e f g h i)=g:=rfl
@[simp] theorem ab6{a b c d e f g h i}:bj (.mk a b c d e f g h i)=h:=rfl
@[simp] theorem asy{a b c d e f g h i}:kC (.mk a b c d e f g h i)=i:=rfl
def df(l:List Sm):D:=.list (l.map b5)
theorem ef(x:Sm):b5 x=.agg [.int .i64 (bu x),.str (gU x),
 .int .i64 (bW (eI x)),.int .i64 (ic (eI x)),.str (dA (eI x)),.str (fq (eI x)),.list ((cN (eI x)).map bM),.int .i64 (jG (eI x)),
 .int .i64 (bW (dM x)),.int .i64 (ic (dM x)),.str (dA (dM x)),.str (fq (dM x)),.list ((cN (dM x)).map bM),.int .i64 (jG (dM x)),
 .list ((cy x).map bM),.list ((ee x).map mC),.list ((dR x).map .str),.list ((bj x).map df),.int .i64 (kC x)]:=by
 cases x;simp[b5,WZ,ry,zp,df]
def UX(c:UInt8):Bool:=(decide (65≤c.toNat)&&decide (c.toNat≤90))||(decide (97≤c.toNat)&&decide (c.toNat≤122))
def UY(c:UInt8):Bool:=decide (48≤c.toNat)&&decide (c.toNat≤57)
def tf:List UInt8→Nat→Bool
 |[],_=>true
 |c::r,i=>(UX c||(!decide (i=0)&&(decide (c=95)||UY c)))&&tf r (i+1)
def da(s:Tx):Bool:=decide (1≤s.length)&&(decide (s.length≤16)&&(!te s&&tf s 0))
structure Pn where
 name:Tx
 ty:Int
 Km:Bool
 deriving DecidableEq
def cW(p:Pn):D:=.agg [.str p.name,.int .i64 p.ty,.bool p.Km]
def jR(ins outs:List (Tx×Bool))(n:Nat):List Pn:=ins.map (fun x=>⟨x.1,if x.2 then 1 else 2,true⟩)++outs.map (fun x=>⟨x.1,if x.2 then 1 else 2,false⟩)++List.replicate n ⟨[],1,false⟩
def zt:List (Tx×Bool):=[([68,111,110,101],false),([66,117,115,121],false),([65,99,116,105,118,101],false),([67,111,109,109,97,110,100,65,98,111,114,116,101,100],false),([69,114,114,111,114],false)]
def Hs:List (Int×List Pn):=[
 (10,jR [([73,78],false),([80,84],true)] [([81],false),([69,84],true)] 0),
 (11,jR [([73,78],false),([80,84],true)] [([81],false),([69,84],true)] 0),
 (12,jR [([73,78],false),([80,84],true)] [([81],false),([69,84],true)] 2),
 (13,jR [([67,85],false),([82],false),([80,86],true)] [([81],false),([67,86],true)] 1),
 (14,jR [([67,68],false),([76,68],false),([80,86],true)] [([81],false),([67,86],true)] 1),
 (15,jR [([67,76,75],false)] [([81],false)] 1),
 (16,jR [([67,76,75],false)] [([81],false)] 1),
 (17,jR [([83,49],false),([82],false)] [([81,49],false)] 0),
 (18,jR [([83],false),([82,49],false)] [([81,49],false)] 0),
 (20,jR [([65,120,105,115],true),([69,110,97,98,108,101],false)] [([83,116,97,116,117,115],false),([69,114,114,111,114],false)] 0),
 (21,jR [([65,120,105,115],true),([69,120,101,99,117,116,101],false)] zt 2),
 (22,jR [([65,120,105,115],true),([69,120,101,99,117,116,101],false)] zt 2),
 (23,jR [([65,120,105,115],true),([69,120,101,99,117,116,101],false)] zt 2),
 (24,jR [([65,120,105,115],true),([69,120,101,99,117,116,101],false),([80,111,115,105,116,105,111,110],true),([86,101,108,111,99,105,116,121],true),([66,117,102,102,101,114,77,111,100,101],true)] zt 2),
 (25,jR [([65,120,105,115],true),([69,120,101,99,117,116,101],false),([68,105,115,116,97,110,99,101],true),([86,101,108,111,99,105,116,121],true),([66,117,102,102,101,114,77,111,100,101],true)] zt 2),
 (26,jR [([65,120,105,115],true),([69,120,101,99,117,116,101],false),([68,105,115,116,97,110,99,101],true),([86,101,108,111,99,105,116,121],true),([66,117,102,102,101,114,77,111,100,101],true)] zt 2),
 (27,jR [([65,120,105,115],true),([69,120,101,99,117,116,101],false),([86,101,108,111,99,105,116,121],true)] [([73,110,86,101,108,111,99,105,116,121],false),([66,117,115,121],false),([65,99,116,105,118,101],false),([67,111,109,109,97,110,100,65,98,111,114,116,101,100],false),([69,114,114,111,114],false)] 2),
 (28,jR [([65,120,105,115],true),([69,120,101,99,117,116,101],false),([77,97,115,116,101,114],true),([78,117,109,101,114,97,116,111,114],true),([68,101,110,111,109,105,110,97,116,111,114],true)] [([73,110,71,101,97,114],false),([66,117,115,121],false),([65,99,116,105,118,101],false),([67,111,109,109,97,110,100,65,98,111,114,116,101,100],false),([69,114,114,111,114],false)] 2),
 (29,jR [([65,120,105,115],true),([69,120,101,99,117,116,101],false)] [([68,111,110,101],false),([69,114,114,111,114],false)] 1),
 (30,jR [([65,120,105,115],true),([69,120,101,99,117,116,101],false),([80,111,115,105,116,105,111,110],true)] [([68,111,110,101],false),([69,114,114,111,114],false)] 1),
 (31,jR [([65,120,105,115],true),([69,110,97,98,108,101],false),([80,101,114,99,101,110,116],true)] [([69,110,97,98,108,101,100],false)] 0)]
def rl:List (Int×List Pn)→Int→List Pn
 |[],_=>[]
 |(a,l)::r,k=>if a=k then l else rl r k
def bC(k:Int):List Pn:=rl Hs k
def wc:List Pn→Tx→Option Pn
 |[],_=>none
 |p::r,s=>if p.name=s∧s≠[]then some p else wc r s
def jS(k:Int)(s:Tx):Option Pn:=wc (bC k) s
def aZ:List Vr→Tx→Option Vr
 |[],_=>none
 |v::r,s=>if v.name=s then some v else aZ r s
def bN(v:Vr):Int:=if v.arr=true then v.hi-v.lo+1 else if 2<v.ty then (bC v.ty).length else 1
structure Te where
 t:Int
 e:Int
 line:Int
 deriving DecidableEq
def eP(t:Int):Te:=⟨t,0,0⟩
def ck(e line:Int):Te:=⟨0,e,line⟩
def gd(op t:Int):Int:=if op=6∨(8≤op∧op≤12)∨(15≤op∧op≤18)then 1 else if op=13∨op=14 then t else 2
def gH(op:Int):Int:=if op=6∨(8≤op∧op≤12)then 1 else 2
def cg(op line:Int)(a b:Te):Te:=
 if a.e≠0 then ⟨0,a.e,a.line⟩else if b.e≠0 then ⟨0,b.e,b.line⟩else
 if a.t≠gd op a.t∨b.t≠gd op a.t then ck 10 line else eP (gH op)
theorem gW{op line:Int}{a b:Te}(h:(cg op line a b).e=0):a.e=0∧b.e=0∧a.t=gd op a.t∧b.t=gd op a.t∧cg op line a b=eP (gH op):=by
 unfold cg at h⊢;by_cases h1:a.e≠0
 ·rw[if_pos h1]at h;exact absurd h h1
 ·rw[if_neg h1]at h⊢;by_cases h2:b.e≠0
  ·rw[if_pos h2]at h;exact absurd h h2
  ·rw[if_neg h2]at h⊢;by_cases h3:a.t≠gd op a.t∨b.t≠gd op a.t
   ·rw[if_pos h3]at h;simp[ck]at h
   ·rw[if_neg h3];simp only[ne_eq,not_or,Decidable.not_not]at h1 h2 h3;exact⟨h1,h2,h3.1,h3.2,rfl⟩
mutual
def aF(vs:List Vr):Ex→Te
 | .mk op _ name field sub line=>
  if op=1∨op=2 then eP op
  else if op=3∨op=4∨op=5 then
   match aZ vs name with
   |none=>ck 9 line
   |some v=>
    if op=5 then (if v.ty≤2 then ck 10 line else match jS v.ty field with
     |none=>ck 9 line
     |some p=>eP p.ty)
    else if v.arr≠decide (op=4)∨2<v.ty then ck 10 line
    else if op=4 then uT vs v.ty sub
    else eP v.ty
  else qQ vs op line sub
def uT(vs:List Vr)(t:Int):List Ex→Te
 |[]=>eP t
 |x::_=>if (aF vs x).e≠0 then ck (aF vs x).e (aF vs x).line else if (aF vs x).t≠1 then ck 10 (jG x)else eP t
def qQ(vs:List Vr)(op line:Int):List Ex→Te
 |[]=>eP 0
 |[x]=>cg op line (aF vs x) (aF vs x)
 |x::y::_=>cg op line (aF vs x) (aF vs y)
end
def dn(vs:List Vr)(x:Ex)(t:Int):Int×Int:=if (aF vs x).e≠0 then ((aF vs x).e,(aF vs x).line)else if (aF vs x).t≠t then (10,jG x)else (0,0)
def W0(b:Int):Nat:=
 if b=10 then 4 else if b=11 then 4 else if b=12 then 6 else if b=13 then 6 else if b=14 then 6 else if b=15 then 3 else if b=16 then 3 else if b=17 then 3 else if b=18 then 3 else if b=20 then 4 else if b=21 then 9 else if b=22 then 9 else if b=23 then 9 else if b=24 then 12 else if b=25 then 12 else if b=26 then 12 else if b=27 then 10 else if b=28 then 12 else if b=29 then 5 else if b=30 then 6 else if b=31 then 4 else 0
def iM:List Int:=[10,11,12,13,14,15,16,17,18,20,21,22,23,24,25,26,27,28,29,30,31]
theorem rm{b:Int}(hb:b∉iM):bC b=[]:=by
 simp only[iM,List.mem_cons,List.not_mem_nil,or_false,not_or]at hb;obtain⟨h1,h2,h3,h4,h5,h6,h7,h8,h9,qR,Cx,jX,h13,h14,h15,EH,h17,h18,h19,h20,R4⟩:=hb;unfold bC Hs;simp only[rl,if_neg (Ne.symm h1),if_neg (Ne.symm h2),if_neg (Ne.symm h3),if_neg (Ne.symm h4),if_neg (Ne.symm h5),if_neg (Ne.symm h6),if_neg (Ne.symm h7),if_neg (Ne.symm h8),if_neg (Ne.symm h9),if_neg (Ne.symm qR),if_neg (Ne.symm Cx),if_neg (Ne.symm jX),if_neg (Ne.symm h13),if_neg (Ne.symm h14),if_neg (Ne.symm h15),if_neg (Ne.symm EH),if_neg (Ne.symm h17),if_neg (Ne.symm h18),if_neg (Ne.symm h19),if_neg (Ne.symm h20),if_neg (Ne.symm R4)]
theorem yA(b:Int):(bC b).length≤20:=by
 by_cases hb:b∈iM
 ·simp only[iM,List.mem_cons,List.not_mem_nil,or_false]at hb;rcases hb with rfl|rfl|rfl|rfl|rfl|rfl|rfl|rfl|rfl|rfl|rfl|rfl|rfl|rfl|rfl|rfl|rfl|rfl|rfl|rfl|rfl<;>decide
 ·rw[rm hb];decide
def W1(x:ar)(n:Int):Bool:=decide (x.n≤n)&&decide (n≤x.m)
def wX(C:List Int)(k:Int):Int:=C[k.toNat]?.getD 0
def ags(C:List Int)(x:ar):Bool:=decide (0≤wX C (x.b+1)∧wX C x.a≤wX C x.b)||decide (wX C (x.b+1)<0∧wX C x.b≤wX C x.a)
structure Ms where
 cells:List Int
 R5:List Int
 at_:Int
 fuel:Int
 fault:Int
def Ms.pop(s:Ms):Ms:={s with R5:=s.R5.dropLast}
def Ms.push(s:Ms)(n:Int):Ms:={s with R5:=s.R5++[n]}
def Ms.top(s:Ms):Int:=s.R5.getLast?.getD 0
def ab8(C:List Int)(k n:Int):List Int:=C.set k.toNat n
def agt(x:ar)(s:Ms):Option Ms:=
 if x.op=1 then some (s.push x.n)
 else if x.op=2 then some (s.push (wX s.cells x.a))
 else if x.op=3 then some (s.push (dO (decide (wX s.cells x.a≠0))))
 else if x.op=4∨x.op=5 then
  (if W1 x s.top=true then some (s.pop.push (if x.op=4 then wX s.cells (x.a+(s.top-x.n))else dO (decide (wX s.cells (x.a+(s.top-x.n))≠0))))else some {s.pop with fault:=3})
 else if x.op=6 then some {s.pop with cells:=ab8 s.cells x.a s.top}
 else if x.op=7 then
  (if W1 x s.pop.top=true then some {s.pop.pop with cells:=ab8 s.cells (x.a+(s.pop.top-x.n)) s.top} else some {s.pop.pop with fault:=3})
 else none
def doF(x:ar)(s:Ms):Ms:=
 if x.b=6∨x.b=7 then
  (if (qP x.b s.top (decide (x.a=1))).2.2=0 then s.pop.push (qP x.b s.top (decide (x.a=1))).1 else {s.pop with fault:=(qP x.b s.top (decide (x.a=1))).2.2})
 else
  (if (uJ x.b s.pop.top s.top (decide (x.a=1))).2.2=0 then s.pop.pop.push (uJ x.b s.pop.top s.top (decide (x.a=1))).1 else {s.pop.pop with fault:=(uJ x.b s.pop.top s.top (decide (x.a=1))).2.2})
def ab9(x:ar)(C:List Int):List Int:=C.take x.a.toNat++agp x.b ((C.drop x.a.toNat).take (W0 x.b))++C.drop (x.a.toNat+W0 x.b)
def alv(x:ar)(s:Ms):Ms:=
 if x.op=8 then doF x s
 else if x.op=9 then {s with at_:=x.a}
 else if x.op=10 then (if s.top=0 then {s.pop with at_:=x.a} else s.pop)
 else if x.op=11 then (if s.fuel=0 then {s with fault:=4} else {s with fuel:=s.fuel-1})
 else if x.op=12 then {s with cells:=ab9 x s.cells}
 else if x.op=13 then s.push (dO (ags s.cells x))
 else if x.op=14 then s.push (dO (decide (x.n≤wX s.cells x.a∧wX s.cells x.a≤x.m)))
 else s
def agu(x:ar)(s:Ms):Ms:=
 match agt x {s with at_:=s.at_+1} with
 |some t=>t
 |none=>alv x {s with at_:=s.at_+1}
inductive FD(l:List ar):Ms→Ms→Prop
 |fault (s:Ms) (h:s.fault≠0):FD l s s
 |fin (s:Ms) (x:ar) (h0:s.fault=0) (hx:l[s.at_.toNat]?=some x) (h:x.op=15):FD l s s
 |step (s:Ms) (x:ar) (t:Ms) (h0:s.fault=0) (hx:l[s.at_.toNat]?=some x) (h:x.op≠15) (h':FD l (agu x s) t):FD l s t
end Go.Am
end
section
namespace Go.Am
open Go
open Go.Proofs
abbrev T2(t:Nat)(k:TK)(s:Nat):Prop:=tk Tryz.prog t=k∧fi Tryz.prog t=some s
abbrev T3(t:Nat)(k:TK)(s:Nat)(z:List AV):Prop:=T2 t k s∧sI Tryz.prog t=some z
abbrev T5(t:Nat)(k:TK)(s:Nat)(z:List AV)(b:Nat)(d:D):Prop:=T3 t k s z∧xo Tryz.prog t=some b∧lJ Tryz.prog t=some d
abbrev FF(t i o y:Nat):Prop:=vp Tryz.prog t i=some o∧Gn Tryz.prog t i=some y
@[simp] theorem awk:T2 1 (.func) 1:=by and_intros<;>kernel_rfl
@[simp] theorem awl:T5 2 (.int .i64) 1 ([.d (.int .i64 0)]) 8 (.int .i64 0):=by and_intros<;>kernel_rfl
@[simp] theorem awm:T5 3 (.int .i64) 1 ([.d (.int .i64 0)]) 8 (.int .i64 0):=by and_intros<;>kernel_rfl
@[simp] theorem awn:T5 4 (.bool) 1 ([.d (.bool false)]) 1 (.bool false):=by and_intros<;>kernel_rfl
@[simp] theorem awo:T5 5 (.int .u8) 1 ([.d (.int .u8 0)]) 1 (.int .u8 0):=by and_intros<;>kernel_rfl
@[simp] theorem awp:T5 6 (.int .u8) 1 ([.d (.int .u8 0)]) 1 (.int .u8 0):=by and_intros<;>kernel_rfl
@[simp] theorem awq:T5 7 (.struct) 4 ([.d (.int .i64 0),.d (.int .i64 0),.d (.bool false),.d (.int .u8 0)]) 24 (.agg ([.int .i64 0,.int .i64 0,.bool false,.int .u8 0])):=by and_intros<;>kernel_rfl
@[simp] theorem asG:FF 7 0 0 2:=by and_intros<;>kernel_rfl
@[simp] theorem asH:FF 7 1 1 3:=by and_intros<;>kernel_rfl
@[simp] theorem asI:FF 7 2 2 4:=by and_intros<;>kernel_rfl
@[simp] theorem asJ:FF 7 3 3 6:=by and_intros<;>kernel_rfl
@[simp] theorem alw:bx Tryz.prog 7=some [(0,1),(1,1),(2,1),(3,1)]:=by kernel_rfl
@[simp] theorem awr:T5 8 (.struct) 4 ([.d (.int .i64 0),.d (.int .i64 0),.d (.bool false),.d (.int .u8 0)]) 24 (.agg ([.int .i64 0,.int .i64 0,.bool false,.int .u8 0])):=by and_intros<;>kernel_rfl
@[simp] theorem asK:FF 8 0 0 2:=by and_intros<;>kernel_rfl
@[simp] theorem asL:FF 8 1 1 3:=by and_intros<;>kernel_rfl
@[simp] theorem asM:FF 8 2 2 4:=by and_intros<;>kernel_rfl
@[simp] theorem asN:FF 8 3 3 6:=by and_intros<;>kernel_rfl
@[simp] theorem alx:bx Tryz.prog 8=some [(0,1),(1,1),(2,1),(3,1)]:=by kernel_rfl
@[simp] theorem aws:T5 9 (.str) 1 ([.d (.str [])]) 16 (.str []):=by and_intros<;>kernel_rfl
@[simp] theorem apU:eN Tryz.prog 9=true:=by kernel_rfl
@[simp] theorem au8:T5 10 (.str) 1 ([.d (.str [])]) 16 (.str []):=by and_intros<;>kernel_rfl
@[simp] theorem aly:eN Tryz.prog 10=true:=by kernel_rfl
@[simp] theorem au9:T5 11 (.str) 1 ([.d (.str [])]) 16 (.str []):=by and_intros<;>kernel_rfl
@[simp] theorem alz:eN Tryz.prog 11=true:=by kernel_rfl
@[simp] theorem ava:T5 12 (.int .u64) 1 ([.d (.int .u64 0)]) 8 (.int .u64 0):=by and_intros<;>kernel_rfl
@[simp] theorem avb:T5 13 (.struct) 2 ([.d (.str []),.d (.int .u64 0)]) 24 (.agg ([.str [],.int .u64 0])):=by and_intros<;>kernel_rfl
@[simp] theorem apV:FF 13 0 0 9:=by and_intros<;>kernel_rfl
@[simp] theorem apW:FF 13 1 1 12:=by and_intros<;>kernel_rfl
@[simp] theorem ajz:bx Tryz.prog 13=some [(0,1),(1,1)]:=by kernel_rfl
@[simp] theorem avc:T5 14 (.struct) 2 ([.d (.str []),.d (.int .u64 0)]) 24 (.agg ([.str [],.int .u64 0])):=by and_intros<;>kernel_rfl
@[simp] theorem apX:FF 14 0 0 9:=by and_intros<;>kernel_rfl
@[simp] theorem apY:FF 14 1 1 12:=by and_intros<;>kernel_rfl
@[simp] theorem ajA:bx Tryz.prog 14=some [(0,1),(1,1)]:=by kernel_rfl
@[simp] theorem avd:T2 15 (.ptr 368) 1:=by and_intros<;>kernel_rfl
@[simp] theorem ave:T2 16 (.ptr 371) 1:=by and_intros<;>kernel_rfl
@[simp] theorem avf:T2 17 (.ptr 379) 1:=by and_intros<;>kernel_rfl
@[simp] theorem avg:T3 18 (.struct) 1 ([.lit (.pointer none)]):=by and_intros<;>kernel_rfl
@[simp] theorem apZ:FF 18 0 0 17:=by and_intros<;>kernel_rfl
@[simp] theorem ajB:bx Tryz.prog 18=some [(0,1)]:=by kernel_rfl
@[simp] theorem avh:T3 19 (.struct) 1 ([.lit (.pointer none)]):=by and_intros<;>kernel_rfl
@[simp] theorem ap0:FF 19 0 0 17:=by and_intros<;>kernel_rfl
@[simp] theorem ajC:bx Tryz.prog 19=some [(0,1)]:=by kernel_rfl
@[simp] theorem avi:T2 20 (.iface) 1:=by and_intros<;>kernel_rfl
@[simp] theorem avj:T5 21 (.int .i32) 1 ([.d (.int .i32 0)]) 4 (.int .i32 0):=by and_intros<;>kernel_rfl
@[simp] theorem avk:T5 22 (.slice 71) 1 ([.lit (.slice none 0 0)]) 24 (.list []):=by and_intros<;>kernel_rfl
@[simp] theorem alA:eN Tryz.prog 22=true:=by kernel_rfl
@[simp] theorem avl:T5 23 (.slice 141) 1 ([.lit (.slice none 0 0)]) 24 (.list []):=by and_intros<;>kernel_rfl
@[simp] theorem alB:eN Tryz.prog 23=true:=by kernel_rfl
@[simp] theorem avm:T5 24 (.struct) 3 ([.d (.str []),.lit (.slice none 0 0),.lit (.slice none 0 0)]) 64 (.agg ([.str [],.list [],.list []])):=by and_intros<;>kernel_rfl
@[simp] theorem ap1:FF 24 0 0 9:=by and_intros<;>kernel_rfl
@[simp] theorem ap2:FF 24 1 1 22:=by and_intros<;>kernel_rfl
@[simp] theorem ap3:FF 24 2 2 23:=by and_intros<;>kernel_rfl
@[simp] theorem ajD:bx Tryz.prog 24=some [(0,1),(1,1),(2,1)]:=by kernel_rfl
@[simp] theorem avn:T5 25 (.struct) 3 ([.d (.str []),.lit (.slice none 0 0),.lit (.slice none 0 0)]) 64 (.agg ([.str [],.list [],.list []])):=by and_intros<;>kernel_rfl
@[simp] theorem ap4:FF 25 0 0 9:=by and_intros<;>kernel_rfl
@[simp] theorem ap5:FF 25 1 1 22:=by and_intros<;>kernel_rfl
@[simp] theorem ap6:FF 25 2 2 23:=by and_intros<;>kernel_rfl
@[simp] theorem ajE:bx Tryz.prog 25=some [(0,1),(1,1),(2,1)]:=by kernel_rfl
@[simp] theorem avo:T2 26 (.func) 1:=by and_intros<;>kernel_rfl
@[simp] theorem avp:T2 27 (.func) 1:=by and_intros<;>kernel_rfl
@[simp] theorem avq:T5 28 (.struct) 2 ([.d (.int .i64 0),.d (.int .i64 0)]) 16 (.agg ([.int .i64 0,.int .i64 0])):=by and_intros<;>kernel_rfl
@[simp] theorem ap7:FF 28 0 0 3:=by and_intros<;>kernel_rfl
@[simp] theorem ap8:FF 28 1 1 3:=by and_intros<;>kernel_rfl
@[simp] theorem ajF:bx Tryz.prog 28=some [(0,1),(1,1)]∧cu Tryz.prog 28=some [.int .i64,.int .i64]:=by and_intros<;>kernel_rfl
@[simp] theorem avr:T5 29 (.struct) 2 ([.d (.int .i64 0),.d (.int .i64 0)]) 16 (.agg ([.int .i64 0,.int .i64 0])):=by and_intros<;>kernel_rfl
@[simp] theorem ap9:FF 29 0 0 3:=by and_intros<;>kernel_rfl
@[simp] theorem aqa:FF 29 1 1 3:=by and_intros<;>kernel_rfl
@[simp] theorem ajG:bx Tryz.prog 29=some [(0,1),(1,1)]∧cu Tryz.prog 29=some [.int .i64,.int .i64]:=by and_intros<;>kernel_rfl
@[simp] theorem avt:T2 30 (.func) 1:=by and_intros<;>kernel_rfl
@[simp] theorem avu:T5 31 (.slice 56) 1 ([.lit (.slice none 0 0)]) 24 (.list []):=by and_intros<;>kernel_rfl
@[simp] theorem alC:eN Tryz.prog 31=true:=by kernel_rfl
@[simp] theorem avv:T5 32 (.struct) 3 ([.lit (.slice none 0 0),.d (.int .i64 0),.d (.int .i64 0)]) 40 (.agg ([.list [],.int .i64 0,.int .i64 0])):=by and_intros<;>kernel_rfl
@[simp] theorem aqb:FF 32 0 0 31:=by and_intros<;>kernel_rfl
@[simp] theorem aqc:FF 32 1 1 3:=by and_intros<;>kernel_rfl
@[simp] theorem aqd:FF 32 2 2 3:=by and_intros<;>kernel_rfl
@[simp] theorem ajH:bx Tryz.prog 32=some [(0,1),(1,1),(2,1)]:=by kernel_rfl
@[simp] theorem avw:T5 33 (.struct) 3 ([.lit (.slice none 0 0),.d (.int .i64 0),.d (.int .i64 0)]) 40 (.agg ([.list [],.int .i64 0,.int .i64 0])):=by and_intros<;>kernel_rfl
@[simp] theorem aqe:FF 33 0 0 31:=by and_intros<;>kernel_rfl
@[simp] theorem aqf:FF 33 1 1 3:=by and_intros<;>kernel_rfl
@[simp] theorem aqg:FF 33 2 2 3:=by and_intros<;>kernel_rfl
@[simp] theorem ajI:bx Tryz.prog 33=some [(0,1),(1,1),(2,1)]:=by kernel_rfl
@[simp] theorem avx:T5 34 (.int .i64) 1 ([.d (.int .i64 0)]) 8 (.int .i64 0):=by and_intros<;>kernel_rfl
@[simp] theorem avy:T2 36 (.func) 1:=by and_intros<;>kernel_rfl
@[simp] theorem avz:T5 38 (.slice 5) 1 ([.lit (.slice none 0 0)]) 24 (.list []):=by and_intros<;>kernel_rfl
@[simp] theorem alD:eN Tryz.prog 38=true:=by kernel_rfl
@[simp] theorem avA:T5 45 (.slice 2) 1 ([.lit (.slice none 0 0)]) 24 (.list []):=by and_intros<;>kernel_rfl
@[simp] theorem alE:eN Tryz.prog 45=true:=by kernel_rfl
@[simp] theorem avB:T2 46 (.func) 1:=by and_intros<;>kernel_rfl
@[simp] theorem avC:T5 48 (.struct) 3 ([.lit (.slice none 0 0),.d (.int .i64 0),.d (.int .i64 0)]) 40 (.agg ([.list [],.int .i64 0,.int .i64 0])):=by and_intros<;>kernel_rfl
@[simp] theorem aqh:FF 48 0 0 45:=by and_intros<;>kernel_rfl
@[simp] theorem aqi:FF 48 1 1 3:=by and_intros<;>kernel_rfl
@[simp] theorem aqj:FF 48 2 2 3:=by and_intros<;>kernel_rfl
@[simp] theorem ajJ:bx Tryz.prog 48=some [(0,1),(1,1),(2,1)]:=by kernel_rfl
@[simp] theorem avD:T5 55 (.struct) 5 ([.d (.int .i64 0),.d (.int .i64 0),.d (.int .i64 0),.d (.int .i64 0),.d (.int .i64 0)]) 40 (.agg ([.int .i64 0,.int .i64 0,.int .i64 0,.int .i64 0,.int .i64 0])):=by and_intros<;>kernel_rfl
@[simp] theorem aqk:FF 55 0 0 3:=by and_intros<;>kernel_rfl
@[simp] theorem aql:FF 55 1 1 3:=by and_intros<;>kernel_rfl
@[simp] theorem aqm:FF 55 2 2 3:=by and_intros<;>kernel_rfl
@[simp] theorem aqn:FF 55 3 3 2:=by and_intros<;>kernel_rfl
@[simp] theorem aqo:FF 55 4 4 2:=by and_intros<;>kernel_rfl
@[simp] theorem ajK:bx Tryz.prog 55=some [(0,1),(1,1),(2,1),(3,1),(4,1)]∧cu Tryz.prog 55=some [.int .i64,.int .i64,.int .i64,.int .i64,.int .i64]:=by and_intros<;>kernel_rfl
@[simp] theorem avE:T5 56 (.struct) 5 ([.d (.int .i64 0),.d (.int .i64 0),.d (.int .i64 0),.d (.int .i64 0),.d (.int .i64 0)]) 40 (.agg ([.int .i64 0,.int .i64 0,.int .i64 0,.int .i64 0,.int .i64 0])):=by and_intros<;>kernel_rfl
@[simp] theorem aqp:FF 56 0 0 3:=by and_intros<;>kernel_rfl
@[simp] theorem aqq:FF 56 1 1 3:=by and_intros<;>kernel_rfl
@[simp] theorem aqr:FF 56 2 2 3:=by and_intros<;>kernel_rfl
@[simp] theorem aqs:FF 56 3 3 2:=by and_intros<;>kernel_rfl
@[simp] theorem aqt:FF 56 4 4 2:=by and_intros<;>kernel_rfl
@[simp] theorem ajL:bx Tryz.prog 56=some [(0,1),(1,1),(2,1),(3,1),(4,1)]∧cu Tryz.prog 56=some [.int .i64,.int .i64,.int .i64,.int .i64,.int .i64]:=by and_intros<;>kernel_rfl
@[simp] theorem avF:T2 57 (.func) 1:=by and_intros<;>kernel_rfl
@[simp] theorem avG:T5 62 (.struct) 5 ([.d (.int .i64 0),.d (.str []),.d (.int .i64 0),.d (.int .i64 0),.d (.int .i64 0)]) 48 (.agg ([.int .i64 0,.str [],.int .i64 0,.int .i64 0,.int .i64 0])):=by and_intros<;>kernel_rfl
@[simp] theorem aqu:FF 62 0 0 3:=by and_intros<;>kernel_rfl
@[simp] theorem aqv:FF 62 1 1 9:=by and_intros<;>kernel_rfl
@[simp] theorem aqw:FF 62 2 2 2:=by and_intros<;>kernel_rfl
@[simp] theorem aqx:FF 62 3 3 3:=by and_intros<;>kernel_rfl
@[simp] theorem aqy:FF 62 4 4 3:=by and_intros<;>kernel_rfl
@[simp] theorem ajM:bx Tryz.prog 62=some [(0,1),(1,1),(2,1),(3,1),(4,1)]∧cu Tryz.prog 62=some [.int .i64,.str,.int .i64,.int .i64,.int .i64]:=by and_intros<;>kernel_rfl
@[simp] theorem avH:T5 63 (.struct) 5 ([.d (.int .i64 0),.d (.str []),.d (.int .i64 0),.d (.int .i64 0),.d (.int .i64 0)]) 48 (.agg ([.int .i64 0,.str [],.int .i64 0,.int .i64 0,.int .i64 0])):=by and_intros<;>kernel_rfl
@[simp] theorem aqz:FF 63 0 0 3:=by and_intros<;>kernel_rfl
@[simp] theorem aqA:FF 63 1 1 9:=by and_intros<;>kernel_rfl
@[simp] theorem aqB:FF 63 2 2 2:=by and_intros<;>kernel_rfl
@[simp] theorem aqC:FF 63 3 3 3:=by and_intros<;>kernel_rfl
@[simp] theorem aqD:FF 63 4 4 3:=by and_intros<;>kernel_rfl
@[simp] theorem ajN:bx Tryz.prog 63=some [(0,1),(1,1),(2,1),(3,1),(4,1)]∧cu Tryz.prog 63=some [.int .i64,.str,.int .i64,.int .i64,.int .i64]:=by and_intros<;>kernel_rfl
@[simp] theorem avI:T2 65 (.func) 1:=by and_intros<;>kernel_rfl
@[simp] theorem avJ:T2 66 (.func) 1:=by and_intros<;>kernel_rfl
@[simp] theorem avK:T5 70 (.struct) 8 ([.d (.str []),.d (.int .i64 0),.d (.int .i64 0),.d (.bool false),.d (.int .i64 0),.d (.int .i64 0),.d (.int .i64 0),.d (.int .i64 0)]) 72 (.agg ([.str [],.int .i64 0,.int .i64 0,.bool false,.int .i64 0,.int .i64 0,.int .i64 0,.int .i64 0])):=by and_intros<;>kernel_rfl
@[simp] theorem aqE:FF 70 0 0 9:=by and_intros<;>kernel_rfl
@[simp] theorem aqF:FF 70 1 1 3:=by and_intros<;>kernel_rfl
@[simp] theorem aqG:FF 70 2 2 3:=by and_intros<;>kernel_rfl
@[simp] theorem aqH:FF 70 3 3 4:=by and_intros<;>kernel_rfl
@[simp] theorem aqI:FF 70 4 4 2:=by and_intros<;>kernel_rfl
@[simp] theorem aqJ:FF 70 5 5 2:=by and_intros<;>kernel_rfl
@[simp] theorem aqK:FF 70 6 6 2:=by and_intros<;>kernel_rfl
@[simp] theorem aqL:FF 70 7 7 3:=by and_intros<;>kernel_rfl
@[simp] theorem ajO:bx Tryz.prog 70=some [(0,1),(1,1),(2,1),(3,1),(4,1),(5,1),(6,1),(7,1)]∧cu Tryz.prog 70=some [.str,.int .i64,.int .i64,.bool,.int .i64,.int .i64,.int .i64,.int .i64]:=by and_intros<;>kernel_rfl
@[simp] theorem avL:T5 71 (.struct) 8 ([.d (.str []),.d (.int .i64 0),.d (.int .i64 0),.d (.bool false),.d (.int .i64 0),.d (.int .i64 0),.d (.int .i64 0),.d (.int .i64 0)]) 72 (.agg ([.str [],.int .i64 0,.int .i64 0,.bool false,.int .i64 0,.int .i64 0,.int .i64 0,.int .i64 0])):=by and_intros<;>kernel_rfl
@[simp] theorem aqM:FF 71 0 0 9:=by and_intros<;>kernel_rfl
@[simp] theorem aqN:FF 71 1 1 3:=by and_intros<;>kernel_rfl
@[simp] theorem aqO:FF 71 2 2 3:=by and_intros<;>kernel_rfl
@[simp] theorem aqP:FF 71 3 3 4:=by and_intros<;>kernel_rfl
@[simp] theorem aqQ:FF 71 4 4 2:=by and_intros<;>kernel_rfl
@[simp] theorem aqR:FF 71 5 5 2:=by and_intros<;>kernel_rfl
@[simp] theorem aqS:FF 71 6 6 2:=by and_intros<;>kernel_rfl
@[simp] theorem aqT:FF 71 7 7 3:=by and_intros<;>kernel_rfl
@[simp] theorem ajP:bx Tryz.prog 71=some [(0,1),(1,1),(2,1),(3,1),(4,1),(5,1),(6,1),(7,1)]∧cu Tryz.prog 71=some [.str,.int .i64,.int .i64,.bool,.int .i64,.int .i64,.int .i64,.int .i64]:=by and_intros<;>kernel_rfl
@[simp] theorem avM:T5 77 (.slice 3) 1 ([.lit (.slice none 0 0)]) 24 (.list []):=by and_intros<;>kernel_rfl
@[simp] theorem alF:eN Tryz.prog 77=true:=by kernel_rfl
@[simp] theorem avN:T5 78 (.struct) 3 ([.lit (.slice none 0 0),.d (.int .i64 0),.lit (.slice none 0 0)]) 56 (.agg ([.list [],.int .i64 0,.list []])):=by and_intros<;>kernel_rfl
@[simp] theorem aqU:FF 78 0 0 77:=by and_intros<;>kernel_rfl
@[simp] theorem aqV:FF 78 1 1 3:=by and_intros<;>kernel_rfl
@[simp] theorem aqW:FF 78 2 2 45:=by and_intros<;>kernel_rfl
@[simp] theorem ajQ:bx Tryz.prog 78=some [(0,1),(1,1),(2,1)]:=by kernel_rfl
@[simp] theorem avO:T5 79 (.struct) 3 ([.lit (.slice none 0 0),.d (.int .i64 0),.lit (.slice none 0 0)]) 56 (.agg ([.list [],.int .i64 0,.list []])):=by and_intros<;>kernel_rfl
@[simp] theorem aqX:FF 79 0 0 77:=by and_intros<;>kernel_rfl
@[simp] theorem aqY:FF 79 1 1 3:=by and_intros<;>kernel_rfl
@[simp] theorem aqZ:FF 79 2 2 45:=by and_intros<;>kernel_rfl
@[simp] theorem ajR:bx Tryz.prog 79=some [(0,1),(1,1),(2,1)]:=by kernel_rfl
@[simp] theorem avP:T2 81 (.ptr 84) 1:=by and_intros<;>kernel_rfl
@[simp] theorem avQ:T5 82 (.slice 77) 1 ([.lit (.slice none 0 0)]) 24 (.list []):=by and_intros<;>kernel_rfl
@[simp] theorem alG:eN Tryz.prog 82=true:=by kernel_rfl
@[simp] theorem avR:T5 83 (.struct) 9 ([.d (.str []),.lit (.slice none 0 0),.lit (.slice none 0 0),.lit (.slice none 0 0),.d (.int .i64 0),.d (.int .i64 0),.d (.int .i64 0),.lit (.slice none 0 0),.lit (.slice none 0 0)]) 160 (.agg ([.str [],.list [],.list [],.list [],.int .i64 0,.int .i64 0,.int .i64 0,.list [],.list []])):=by and_intros<;>kernel_rfl
@[simp] theorem aq0:FF 83 0 0 25:=by and_intros<;>kernel_rfl
@[simp] theorem aq1:FF 83 1 3 31:=by and_intros<;>kernel_rfl
@[simp] theorem aq2:FF 83 2 4 3:=by and_intros<;>kernel_rfl
@[simp] theorem aq3:FF 83 3 5 3:=by and_intros<;>kernel_rfl
@[simp] theorem aq4:FF 83 4 6 3:=by and_intros<;>kernel_rfl
@[simp] theorem aq5:FF 83 5 7 82:=by and_intros<;>kernel_rfl
@[simp] theorem aq6:FF 83 6 8 77:=by and_intros<;>kernel_rfl
@[simp] theorem ajS:bx Tryz.prog 83=some [(0,3),(3,1),(4,1),(5,1),(6,1),(7,1),(8,1)]:=by kernel_rfl
@[simp] theorem avS:T5 84 (.struct) 9 ([.d (.str []),.lit (.slice none 0 0),.lit (.slice none 0 0),.lit (.slice none 0 0),.d (.int .i64 0),.d (.int .i64 0),.d (.int .i64 0),.lit (.slice none 0 0),.lit (.slice none 0 0)]) 160 (.agg ([.str [],.list [],.list [],.list [],.int .i64 0,.int .i64 0,.int .i64 0,.list [],.list []])):=by and_intros<;>kernel_rfl
@[simp] theorem aq7:FF 84 0 0 25:=by and_intros<;>kernel_rfl
@[simp] theorem aq8:FF 84 1 3 31:=by and_intros<;>kernel_rfl
@[simp] theorem aq9:FF 84 2 4 3:=by and_intros<;>kernel_rfl
@[simp] theorem ara:FF 84 3 5 3:=by and_intros<;>kernel_rfl
@[simp] theorem arb:FF 84 4 6 3:=by and_intros<;>kernel_rfl
@[simp] theorem arc:FF 84 5 7 82:=by and_intros<;>kernel_rfl
@[simp] theorem ard:FF 84 6 8 77:=by and_intros<;>kernel_rfl
@[simp] theorem ajT:bx Tryz.prog 84=some [(0,3),(3,1),(4,1),(5,1),(6,1),(7,1),(8,1)]:=by kernel_rfl
@[simp] theorem avT:T5 89 (.slice 4) 1 ([.lit (.slice none 0 0)]) 24 (.list []):=by and_intros<;>kernel_rfl
@[simp] theorem alH:eN Tryz.prog 89=true:=by kernel_rfl
@[simp] theorem avU:T5 90 (.struct) 5 ([.lit (.slice none 0 0),.d (.int .i64 0),.d (.int .i64 0),.lit (.slice none 0 0),.lit (.slice none 0 0)]) 88 (.agg ([.list [],.int .i64 0,.int .i64 0,.list [],.list []])):=by and_intros<;>kernel_rfl
@[simp] theorem are:FF 90 0 0 33:=by and_intros<;>kernel_rfl
@[simp] theorem arf:FF 90 1 3 89:=by and_intros<;>kernel_rfl
@[simp] theorem arh:FF 90 2 4 89:=by and_intros<;>kernel_rfl
@[simp] theorem ajU:bx Tryz.prog 90=some [(0,3),(3,1),(4,1)]:=by kernel_rfl
@[simp] theorem avV:T5 94 (.struct) 2 ([.lit (.slice none 0 0),.d (.int .i64 0)]) 32 (.agg ([.list [],.int .i64 0])):=by and_intros<;>kernel_rfl
@[simp] theorem ari:FF 94 0 0 38:=by and_intros<;>kernel_rfl
@[simp] theorem arj:FF 94 1 1 34:=by and_intros<;>kernel_rfl
@[simp] theorem ajV:bx Tryz.prog 94=some [(0,1),(1,1)]:=by kernel_rfl
@[simp] theorem avW:T5 95 (.struct) 2 ([.lit (.slice none 0 0),.d (.int .i64 0)]) 32 (.agg ([.list [],.int .i64 0])):=by and_intros<;>kernel_rfl
@[simp] theorem ark:FF 95 0 0 38:=by and_intros<;>kernel_rfl
@[simp] theorem arl:FF 95 1 1 34:=by and_intros<;>kernel_rfl
@[simp] theorem ajW:bx Tryz.prog 95=some [(0,1),(1,1)]:=by kernel_rfl
@[simp] theorem avX:T5 96 (.int .u64) 1 ([.d (.int .u64 0)]) 8 (.int .u64 0):=by and_intros<;>kernel_rfl
@[simp] theorem avY:T2 97 (.func) 1:=by and_intros<;>kernel_rfl
@[simp] theorem avZ:T2 99 (.func) 1:=by and_intros<;>kernel_rfl
@[simp] theorem asO:T2 100 (.func) 1:=by and_intros<;>kernel_rfl
@[simp] theorem asP:T5 103 (.int .u16) 1 ([.d (.int .u16 0)]) 2 (.int .u16 0):=by and_intros<;>kernel_rfl
@[simp] theorem asQ:T2 105 (.func) 1:=by and_intros<;>kernel_rfl
@[simp] theorem asR:T5 111 (.arr 64 2) 64 (List.replicate 64 (.d (.int .i64 0))) 512 (.agg (List.replicate 64 (.int .i64 0))):=by and_intros<;>kernel_rfl
@[simp] theorem agv:bx Tryz.prog 111=none:=by kernel_rfl
@[simp] theorem asS:T5 116 (.slice 119) 1 ([.lit (.slice none 0 0)]) 24 (.list []):=by and_intros<;>kernel_rfl
@[simp] theorem ajX:eN Tryz.prog 116=true:=by kernel_rfl
@[simp] theorem asT:T5 119 (.slice 175) 1 ([.lit (.slice none 0 0)]) 24 (.list []):=by and_intros<;>kernel_rfl
@[simp] theorem ajY:eN Tryz.prog 119=true:=by kernel_rfl
@[simp] theorem asU:T5 122 (.struct) 7 ([.d (.str []),.lit (.slice none 0 0),.lit (.slice none 0 0),.lit (.slice none 0 0),.lit (.slice none 0 0),.lit (.slice none 0 0),.d (.int .i64 0)]) 144 (.agg ([.str [],.list [],.list [],.list [],.list [],.list [],.int .i64 0])):=by and_intros<;>kernel_rfl
@[simp] theorem alI:FF 122 0 0 25:=by and_intros<;>kernel_rfl
@[simp] theorem alJ:FF 122 1 3 77:=by and_intros<;>kernel_rfl
@[simp] theorem alK:FF 122 2 4 116:=by and_intros<;>kernel_rfl
@[simp] theorem alL:FF 122 3 5 45:=by and_intros<;>kernel_rfl
@[simp] theorem alM:FF 122 4 6 3:=by and_intros<;>kernel_rfl
@[simp] theorem agw:bx Tryz.prog 122=some [(0,3),(3,1),(4,1),(5,1),(6,1)]:=by kernel_rfl
@[simp] theorem asV:T2 128 (.func) 1:=by and_intros<;>kernel_rfl
@[simp] theorem asW:T2 133 (.func) 1:=by and_intros<;>kernel_rfl
@[simp] theorem asX:T5 134 (.slice 136) 1 ([.lit (.slice none 0 0)]) 24 (.list []):=by and_intros<;>kernel_rfl
@[simp] theorem ajZ:eN Tryz.prog 134=true:=by kernel_rfl
@[simp] theorem asY:T5 135 (.struct) 6 ([.d (.int .i64 0),.d (.int .i64 0),.d (.str []),.d (.str []),.lit (.slice none 0 0),.d (.int .i64 0)]) 80 (.agg ([.int .i64 0,.int .i64 0,.str [],.str [],.list [],.int .i64 0])):=by and_intros<;>kernel_rfl
@[simp] theorem alN:FF 135 0 0 3:=by and_intros<;>kernel_rfl
@[simp] theorem alO:FF 135 1 1 2:=by and_intros<;>kernel_rfl
@[simp] theorem alP:FF 135 2 2 9:=by and_intros<;>kernel_rfl
@[simp] theorem alQ:FF 135 3 3 9:=by and_intros<;>kernel_rfl
@[simp] theorem alR:FF 135 4 4 134:=by and_intros<;>kernel_rfl
@[simp] theorem alS:FF 135 5 5 3:=by and_intros<;>kernel_rfl
@[simp] theorem agx:bx Tryz.prog 135=some [(0,1),(1,1),(2,1),(3,1),(4,1),(5,1)]:=by kernel_rfl
@[simp] theorem asZ:T5 136 (.struct) 6 ([.d (.int .i64 0),.d (.int .i64 0),.d (.str []),.d (.str []),.lit (.slice none 0 0),.d (.int .i64 0)]) 80 (.agg ([.int .i64 0,.int .i64 0,.str [],.str [],.list [],.int .i64 0])):=by and_intros<;>kernel_rfl
@[simp] theorem alT:FF 136 0 0 3:=by and_intros<;>kernel_rfl
@[simp] theorem alU:FF 136 1 1 2:=by and_intros<;>kernel_rfl
@[simp] theorem alV:FF 136 2 2 9:=by and_intros<;>kernel_rfl
@[simp] theorem alW:FF 136 3 3 9:=by and_intros<;>kernel_rfl
@[simp] theorem alX:FF 136 4 4 134:=by and_intros<;>kernel_rfl
@[simp] theorem alY:FF 136 5 5 3:=by and_intros<;>kernel_rfl
@[simp] theorem agy:bx Tryz.prog 136=some [(0,1),(1,1),(2,1),(3,1),(4,1),(5,1)]:=by kernel_rfl
@[simp] theorem as0:T5 137 (.slice 45) 1 ([.lit (.slice none 0 0)]) 24 (.list []):=by and_intros<;>kernel_rfl
@[simp] theorem aj0:eN Tryz.prog 137=true:=by kernel_rfl
@[simp] theorem as1:T5 138 (.slice 9) 1 ([.lit (.slice none 0 0)]) 24 (.list []):=by and_intros<;>kernel_rfl
@[simp] theorem aj1:eN Tryz.prog 138=true:=by kernel_rfl
@[simp] theorem as2:T5 139 (.slice 23) 1 ([.lit (.slice none 0 0)]) 24 (.list []):=by and_intros<;>kernel_rfl
@[simp] theorem aj2:eN Tryz.prog 139=true:=by kernel_rfl
@[simp] theorem as3:T5 140 (.struct) 19 ([.d (.int .i64 0),.d (.str []),.d (.int .i64 0),.d (.int .i64 0),.d (.str []),.d (.str []),.lit (.slice none 0 0),.d (.int .i64 0),.d (.int .i64 0),.d (.int .i64 0),.d (.str []),.d (.str []),.lit (.slice none 0 0),.d (.int .i64 0),.lit (.slice none 0 0),.lit (.slice none 0 0),.lit (.slice none 0 0),.lit (.slice none 0 0),.d (.int .i64 0)]) 288 (.agg ([.int .i64 0,.str [],.int .i64 0,.int .i64 0,.str [],.str [],.list [],.int .i64 0,.int .i64 0,.int .i64 0,.str [],.str [],.list [],.int .i64 0,.list [],.list [],.list [],.list [],.int .i64 0])):=by and_intros<;>kernel_rfl
@[simp] theorem alZ:FF 140 0 0 3:=by and_intros<;>kernel_rfl
@[simp] theorem al0:FF 140 1 1 9:=by and_intros<;>kernel_rfl
@[simp] theorem al1:FF 140 2 2 136:=by and_intros<;>kernel_rfl
@[simp] theorem al2:FF 140 3 8 136:=by and_intros<;>kernel_rfl
@[simp] theorem al3:FF 140 4 14 134:=by and_intros<;>kernel_rfl
@[simp] theorem al4:FF 140 5 15 137:=by and_intros<;>kernel_rfl
@[simp] theorem al5:FF 140 6 16 138:=by and_intros<;>kernel_rfl
@[simp] theorem al6:FF 140 7 17 139:=by and_intros<;>kernel_rfl
@[simp] theorem al7:FF 140 8 18 3:=by and_intros<;>kernel_rfl
@[simp] theorem agz:bx Tryz.prog 140=some [(0,1),(1,1),(2,6),(8,6),(14,1),(15,1),(16,1),(17,1),(18,1)]:=by kernel_rfl
@[simp] theorem as4:T5 141 (.struct) 19 ([.d (.int .i64 0),.d (.str []),.d (.int .i64 0),.d (.int .i64 0),.d (.str []),.d (.str []),.lit (.slice none 0 0),.d (.int .i64 0),.d (.int .i64 0),.d (.int .i64 0),.d (.str []),.d (.str []),.lit (.slice none 0 0),.d (.int .i64 0),.lit (.slice none 0 0),.lit (.slice none 0 0),.lit (.slice none 0 0),.lit (.slice none 0 0),.d (.int .i64 0)]) 288 (.agg ([.int .i64 0,.str [],.int .i64 0,.int .i64 0,.str [],.str [],.list [],.int .i64 0,.int .i64 0,.int .i64 0,.str [],.str [],.list [],.int .i64 0,.list [],.list [],.list [],.list [],.int .i64 0])):=by and_intros<;>kernel_rfl
@[simp] theorem al8:FF 141 0 0 3:=by and_intros<;>kernel_rfl
@[simp] theorem al9:FF 141 1 1 9:=by and_intros<;>kernel_rfl
@[simp] theorem ama:FF 141 2 2 136:=by and_intros<;>kernel_rfl
@[simp] theorem amb:FF 141 3 8 136:=by and_intros<;>kernel_rfl
@[simp] theorem amc:FF 141 4 14 134:=by and_intros<;>kernel_rfl
@[simp] theorem amd:FF 141 5 15 137:=by and_intros<;>kernel_rfl
@[simp] theorem ame:FF 141 6 16 138:=by and_intros<;>kernel_rfl
@[simp] theorem amf:FF 141 7 17 139:=by and_intros<;>kernel_rfl
@[simp] theorem amg:FF 141 8 18 3:=by and_intros<;>kernel_rfl
@[simp] theorem agA:bx Tryz.prog 141=some [(0,1),(1,1),(2,6),(8,6),(14,1),(15,1),(16,1),(17,1),(18,1)]:=by kernel_rfl
@[simp] theorem as5:T5 145 (.slice 148) 1 ([.lit (.slice none 0 0)]) 24 (.list []):=by and_intros<;>kernel_rfl
@[simp] theorem aj3:eN Tryz.prog 145=true:=by kernel_rfl
@[simp] theorem as6:T5 147 (.struct) 4 ([.d (.int .i64 0),.d (.str []),.d (.str []),.lit (.slice none 0 0)]) 64 (.agg ([.int .i64 0,.str [],.str [],.list []])):=by and_intros<;>kernel_rfl
@[simp] theorem amh:FF 147 0 0 3:=by and_intros<;>kernel_rfl
@[simp] theorem ami:FF 147 1 1 9:=by and_intros<;>kernel_rfl
@[simp] theorem amj:FF 147 2 2 9:=by and_intros<;>kernel_rfl
@[simp] theorem amk:FF 147 3 3 138:=by and_intros<;>kernel_rfl
@[simp] theorem agB:bx Tryz.prog 147=some [(0,1),(1,1),(2,1),(3,1)]:=by kernel_rfl
@[simp] theorem as7:T5 148 (.struct) 4 ([.d (.int .i64 0),.d (.str []),.d (.str []),.lit (.slice none 0 0)]) 64 (.agg ([.int .i64 0,.str [],.str [],.list []])):=by and_intros<;>kernel_rfl
@[simp] theorem aml:FF 148 0 0 3:=by and_intros<;>kernel_rfl
@[simp] theorem amm:FF 148 1 1 9:=by and_intros<;>kernel_rfl
@[simp] theorem amn:FF 148 2 2 9:=by and_intros<;>kernel_rfl
@[simp] theorem amo:FF 148 3 3 138:=by and_intros<;>kernel_rfl
@[simp] theorem agC:bx Tryz.prog 148=some [(0,1),(1,1),(2,1),(3,1)]:=by kernel_rfl
@[simp] theorem as8:T2 155 (.func) 1:=by and_intros<;>kernel_rfl
@[simp] theorem as9:T5 158 (.int .u64) 1 ([.d (.int .u64 0)]) 8 (.int .u64 0):=by and_intros<;>kernel_rfl
@[simp] theorem ata:T2 160 (.func) 1:=by and_intros<;>kernel_rfl
@[simp] theorem atb:T5 174 (.struct) 3 ([.d (.str []),.d (.int .i64 0),.d (.bool false)]) 32 (.agg ([.str [],.int .i64 0,.bool false])):=by and_intros<;>kernel_rfl
@[simp] theorem amp:FF 174 0 0 9:=by and_intros<;>kernel_rfl
@[simp] theorem amq:FF 174 1 1 3:=by and_intros<;>kernel_rfl
@[simp] theorem amr:FF 174 2 2 4:=by and_intros<;>kernel_rfl
@[simp] theorem agD:bx Tryz.prog 174=some [(0,1),(1,1),(2,1)]∧cu Tryz.prog 174=some [.str,.int .i64,.bool]:=by and_intros<;>kernel_rfl
@[simp] theorem atc:T5 175 (.struct) 3 ([.d (.str []),.d (.int .i64 0),.d (.bool false)]) 32 (.agg ([.str [],.int .i64 0,.bool false])):=by and_intros<;>kernel_rfl
@[simp] theorem ams:FF 175 0 0 9:=by and_intros<;>kernel_rfl
@[simp] theorem amt:FF 175 1 1 3:=by and_intros<;>kernel_rfl
@[simp] theorem amu:FF 175 2 2 4:=by and_intros<;>kernel_rfl
@[simp] theorem agE:bx Tryz.prog 175=some [(0,1),(1,1),(2,1)]∧cu Tryz.prog 175=some [.str,.int .i64,.bool]:=by and_intros<;>kernel_rfl
@[simp] theorem atd:T5 177 (.struct) 5 ([.d (.int .i64 0),.d (.str []),.d (.str []),.d (.str []),.d (.int .i64 0)]) 64 (.agg ([.int .i64 0,.str [],.str [],.str [],.int .i64 0])):=by and_intros<;>kernel_rfl
@[simp] theorem amv:FF 177 0 0 3:=by and_intros<;>kernel_rfl
@[simp] theorem amw:FF 177 1 1 9:=by and_intros<;>kernel_rfl
@[simp] theorem amx:FF 177 2 2 9:=by and_intros<;>kernel_rfl
@[simp] theorem amy:FF 177 3 3 9:=by and_intros<;>kernel_rfl
@[simp] theorem amz:FF 177 4 4 3:=by and_intros<;>kernel_rfl
@[simp] theorem agF:bx Tryz.prog 177=some [(0,1),(1,1),(2,1),(3,1),(4,1)]∧cu Tryz.prog 177=some [.int .i64,.str,.str,.str,.int .i64]:=by and_intros<;>kernel_rfl
@[simp] theorem ate:T5 178 (.struct) 5 ([.d (.int .i64 0),.d (.str []),.d (.str []),.d (.str []),.d (.int .i64 0)]) 64 (.agg ([.int .i64 0,.str [],.str [],.str [],.int .i64 0])):=by and_intros<;>kernel_rfl
@[simp] theorem amA:FF 178 0 0 3:=by and_intros<;>kernel_rfl
@[simp] theorem amB:FF 178 1 1 9:=by and_intros<;>kernel_rfl
@[simp] theorem amC:FF 178 2 2 9:=by and_intros<;>kernel_rfl
@[simp] theorem amD:FF 178 3 3 9:=by and_intros<;>kernel_rfl
@[simp] theorem amE:FF 178 4 4 3:=by and_intros<;>kernel_rfl
@[simp] theorem agG:bx Tryz.prog 178=some [(0,1),(1,1),(2,1),(3,1),(4,1)]∧cu Tryz.prog 178=some [.int .i64,.str,.str,.str,.int .i64]:=by and_intros<;>kernel_rfl
@[simp] theorem atf:T5 182 (.slice 63) 1 ([.lit (.slice none 0 0)]) 24 (.list []):=by and_intros<;>kernel_rfl
@[simp] theorem aj4:eN Tryz.prog 182=true:=by kernel_rfl
@[simp] theorem atg:T5 185 (.struct) 6 ([.d (.int .i64 0),.d (.int .i64 0),.d (.str []),.d (.int .i64 0),.d (.int .i64 0),.d (.int .i64 0)]) 56 (.agg ([.int .i64 0,.int .i64 0,.str [],.int .i64 0,.int .i64 0,.int .i64 0])):=by and_intros<;>kernel_rfl
@[simp] theorem amF:FF 185 0 0 34:=by and_intros<;>kernel_rfl
@[simp] theorem amG:FF 185 1 1 63:=by and_intros<;>kernel_rfl
@[simp] theorem agH:bx Tryz.prog 185=some [(0,1),(1,5)]∧cu Tryz.prog 185=some [.int .i64,.int .i64,.str,.int .i64,.int .i64,.int .i64]:=by and_intros<;>kernel_rfl
@[simp] theorem ath:T5 186 (.struct) 6 ([.d (.int .i64 0),.d (.int .i64 0),.d (.str []),.d (.int .i64 0),.d (.int .i64 0),.d (.int .i64 0)]) 56 (.agg ([.int .i64 0,.int .i64 0,.str [],.int .i64 0,.int .i64 0,.int .i64 0])):=by and_intros<;>kernel_rfl
@[simp] theorem amH:FF 186 0 0 34:=by and_intros<;>kernel_rfl
@[simp] theorem amI:FF 186 1 1 63:=by and_intros<;>kernel_rfl
@[simp] theorem agI:bx Tryz.prog 186=some [(0,1),(1,5)]∧cu Tryz.prog 186=some [.int .i64,.int .i64,.str,.int .i64,.int .i64,.int .i64]:=by and_intros<;>kernel_rfl
@[simp] theorem ati:T2 188 (.ptr 190) 1:=by and_intros<;>kernel_rfl
@[simp] theorem atj:T5 189 (.struct) 4 ([.lit (.slice none 0 0),.d (.int .i64 0),.d (.int .i64 0),.lit (.slice none 0 0)]) 64 (.agg ([.list [],.int .i64 0,.int .i64 0,.list []])):=by and_intros<;>kernel_rfl
@[simp] theorem amJ:FF 189 0 0 182:=by and_intros<;>kernel_rfl
@[simp] theorem amK:FF 189 1 1 3:=by and_intros<;>kernel_rfl
@[simp] theorem amL:FF 189 2 2 3:=by and_intros<;>kernel_rfl
@[simp] theorem amM:FF 189 3 3 22:=by and_intros<;>kernel_rfl
@[simp] theorem agJ:bx Tryz.prog 189=some [(0,1),(1,1),(2,1),(3,1)]:=by kernel_rfl
@[simp] theorem atk:T5 190 (.struct) 4 ([.lit (.slice none 0 0),.d (.int .i64 0),.d (.int .i64 0),.lit (.slice none 0 0)]) 64 (.agg ([.list [],.int .i64 0,.int .i64 0,.list []])):=by and_intros<;>kernel_rfl
@[simp] theorem amN:FF 190 0 0 182:=by and_intros<;>kernel_rfl
@[simp] theorem amO:FF 190 1 1 3:=by and_intros<;>kernel_rfl
@[simp] theorem amP:FF 190 2 2 3:=by and_intros<;>kernel_rfl
@[simp] theorem amQ:FF 190 3 3 22:=by and_intros<;>kernel_rfl
@[simp] theorem agK:bx Tryz.prog 190=some [(0,1),(1,1),(2,1),(3,1)]:=by kernel_rfl
@[simp] theorem atl:T5 204 (.slice 134) 1 ([.lit (.slice none 0 0)]) 24 (.list []):=by and_intros<;>kernel_rfl
@[simp] theorem aj5:eN Tryz.prog 204=true:=by kernel_rfl
@[simp] theorem atm:T5 229 (.slice 178) 1 ([.lit (.slice none 0 0)]) 24 (.list []):=by and_intros<;>kernel_rfl
@[simp] theorem aj6:eN Tryz.prog 229=true:=by kernel_rfl
@[simp] theorem atn:T2 232 (.func) 1:=by and_intros<;>kernel_rfl
@[simp] theorem ato:T2 236 (.ptr 238) 1:=by and_intros<;>kernel_rfl
@[simp] theorem atp:T5 237 (.struct) 4 ([.d (.str []),.d (.int .i64 0),.d (.int .i64 0),.d (.int .i64 0)]) 40 (.agg ([.str [],.int .i64 0,.int .i64 0,.int .i64 0])):=by and_intros<;>kernel_rfl
@[simp] theorem amR:FF 237 0 0 9:=by and_intros<;>kernel_rfl
@[simp] theorem amS:FF 237 1 1 3:=by and_intros<;>kernel_rfl
@[simp] theorem amT:FF 237 2 2 3:=by and_intros<;>kernel_rfl
@[simp] theorem amU:FF 237 3 3 3:=by and_intros<;>kernel_rfl
@[simp] theorem agL:bx Tryz.prog 237=some [(0,1),(1,1),(2,1),(3,1)]∧cu Tryz.prog 237=some [.str,.int .i64,.int .i64,.int .i64]:=by and_intros<;>kernel_rfl
@[simp] theorem atq:T5 238 (.struct) 4 ([.d (.str []),.d (.int .i64 0),.d (.int .i64 0),.d (.int .i64 0)]) 40 (.agg ([.str [],.int .i64 0,.int .i64 0,.int .i64 0])):=by and_intros<;>kernel_rfl
@[simp] theorem amV:FF 238 0 0 9:=by and_intros<;>kernel_rfl
@[simp] theorem amW:FF 238 1 1 3:=by and_intros<;>kernel_rfl
@[simp] theorem amX:FF 238 2 2 3:=by and_intros<;>kernel_rfl
@[simp] theorem amY:FF 238 3 3 3:=by and_intros<;>kernel_rfl
@[simp] theorem agM:bx Tryz.prog 238=some [(0,1),(1,1),(2,1),(3,1)]∧cu Tryz.prog 238=some [.str,.int .i64,.int .i64,.int .i64]:=by and_intros<;>kernel_rfl
@[simp] theorem atr:T2 255 (.func) 1:=by and_intros<;>kernel_rfl
@[simp] theorem ats:T5 274 (.arr 256 5) 256 (List.replicate 256 (.d (.int .u8 0))) 256 (.agg (List.replicate 256 (.int .u8 0))):=by and_intros<;>kernel_rfl
@[simp] theorem agN:bx Tryz.prog 274=none:=by kernel_rfl
@[simp] theorem att:T2 276 (.func) 1:=by and_intros<;>kernel_rfl
@[simp] theorem atu:T2 285 (.func) 1:=by and_intros<;>kernel_rfl
@[simp] theorem atv:T2 302 (.func) 1:=by and_intros<;>kernel_rfl
@[simp] theorem atw:T5 305 (.slice 307) 1 ([.lit (.slice none 0 0)]) 24 (.list []):=by and_intros<;>kernel_rfl
@[simp] theorem aj7:eN Tryz.prog 305=true:=by kernel_rfl
@[simp] theorem atx:T5 306 (.struct) 2 ([.d (.int .i64 0),.d (.int .i64 0)]) 16 (.agg ([.int .i64 0,.int .i64 0])):=by and_intros<;>kernel_rfl
@[simp] theorem amZ:FF 306 0 0 3:=by and_intros<;>kernel_rfl
@[simp] theorem am0:FF 306 1 1 3:=by and_intros<;>kernel_rfl
@[simp] theorem agO:bx Tryz.prog 306=some [(0,1),(1,1)]∧cu Tryz.prog 306=some [.int .i64,.int .i64]:=by and_intros<;>kernel_rfl
@[simp] theorem aty:T5 307 (.struct) 2 ([.d (.int .i64 0),.d (.int .i64 0)]) 16 (.agg ([.int .i64 0,.int .i64 0])):=by and_intros<;>kernel_rfl
@[simp] theorem am1:FF 307 0 0 3:=by and_intros<;>kernel_rfl
@[simp] theorem am2:FF 307 1 1 3:=by and_intros<;>kernel_rfl
@[simp] theorem agP:bx Tryz.prog 307=some [(0,1),(1,1)]∧cu Tryz.prog 307=some [.int .i64,.int .i64]:=by and_intros<;>kernel_rfl
@[simp] theorem atz:T5 308 (.int .u32) 1 ([.d (.int .u32 0)]) 4 (.int .u32 0):=by and_intros<;>kernel_rfl
@[simp] theorem atA:T2 310 (.ptr 340) 1:=by and_intros<;>kernel_rfl
@[simp] theorem atB:T5 312 (.struct) 2 ([.d (.str []),.d (.int .i64 0)]) 24 (.agg ([.str [],.int .i64 0])):=by and_intros<;>kernel_rfl
@[simp] theorem am3:FF 312 0 0 9:=by and_intros<;>kernel_rfl
@[simp] theorem am4:FF 312 1 1 2:=by and_intros<;>kernel_rfl
@[simp] theorem agQ:bx Tryz.prog 312=some [(0,1),(1,1)]∧cu Tryz.prog 312=some [.str,.int .i64]:=by and_intros<;>kernel_rfl
@[simp] theorem atC:T5 313 (.slice 312) 1 ([.lit (.slice none 0 0)]) 24 (.list []):=by and_intros<;>kernel_rfl
@[simp] theorem aj8:eN Tryz.prog 313=true:=by kernel_rfl
@[simp] theorem atD:T5 315 (.struct) 9 ([.d (.int .i64 0),.d (.str []),.d (.int .i64 0),.d (.int .i64 0),.d (.int .i64 0),.d (.int .i64 0),.d (.bool false),.d (.int .i64 0),.d (.int .i64 0)]) 80 (.agg ([.int .i64 0,.str [],.int .i64 0,.int .i64 0,.int .i64 0,.int .i64 0,.bool false,.int .i64 0,.int .i64 0])):=by and_intros<;>kernel_rfl
@[simp] theorem am5:FF 315 0 0 63:=by and_intros<;>kernel_rfl
@[simp] theorem am6:FF 315 1 5 3:=by and_intros<;>kernel_rfl
@[simp] theorem am7:FF 315 2 6 4:=by and_intros<;>kernel_rfl
@[simp] theorem am8:FF 315 3 7 2:=by and_intros<;>kernel_rfl
@[simp] theorem am9:FF 315 4 8 2:=by and_intros<;>kernel_rfl
@[simp] theorem agR:bx Tryz.prog 315=some [(0,5),(5,1),(6,1),(7,1),(8,1)]∧cu Tryz.prog 315=some [.int .i64,.str,.int .i64,.int .i64,.int .i64,.int .i64,.bool,.int .i64,.int .i64]:=by and_intros<;>kernel_rfl
@[simp] theorem atE:T5 316 (.struct) 9 ([.d (.int .i64 0),.d (.str []),.d (.int .i64 0),.d (.int .i64 0),.d (.int .i64 0),.d (.int .i64 0),.d (.bool false),.d (.int .i64 0),.d (.int .i64 0)]) 80 (.agg ([.int .i64 0,.str [],.int .i64 0,.int .i64 0,.int .i64 0,.int .i64 0,.bool false,.int .i64 0,.int .i64 0])):=by and_intros<;>kernel_rfl
@[simp] theorem ana:FF 316 0 0 63:=by and_intros<;>kernel_rfl
@[simp] theorem anb:FF 316 1 5 3:=by and_intros<;>kernel_rfl
@[simp] theorem anc:FF 316 2 6 4:=by and_intros<;>kernel_rfl
@[simp] theorem ane:FF 316 3 7 2:=by and_intros<;>kernel_rfl
@[simp] theorem anf:FF 316 4 8 2:=by and_intros<;>kernel_rfl
@[simp] theorem agS:bx Tryz.prog 316=some [(0,5),(5,1),(6,1),(7,1),(8,1)]∧cu Tryz.prog 316=some [.int .i64,.str,.int .i64,.int .i64,.int .i64,.int .i64,.bool,.int .i64,.int .i64]:=by and_intros<;>kernel_rfl
@[simp] theorem atG:T5 337 (.slice 342) 1 ([.lit (.slice none 0 0)]) 24 (.list []):=by and_intros<;>kernel_rfl
@[simp] theorem aj9:eN Tryz.prog 337=true:=by kernel_rfl
@[simp] theorem atH:T5 338 (.slice 345) 1 ([.lit (.slice none 0 0)]) 24 (.list []):=by and_intros<;>kernel_rfl
@[simp] theorem aka:eN Tryz.prog 338=true:=by kernel_rfl
@[simp] theorem atJ:T5 339 (.struct) 3 ([.lit (.slice none 0 0),.lit (.slice none 0 0),.d (.int .i64 0)]) 56 (.agg ([.list [],.list [],.int .i64 0])):=by and_intros<;>kernel_rfl
@[simp] theorem ang:FF 339 0 0 337:=by and_intros<;>kernel_rfl
@[simp] theorem anh:FF 339 1 1 338:=by and_intros<;>kernel_rfl
@[simp] theorem ani:FF 339 2 2 3:=by and_intros<;>kernel_rfl
@[simp] theorem agT:bx Tryz.prog 339=some [(0,1),(1,1),(2,1)]:=by kernel_rfl
@[simp] theorem atK:T5 340 (.struct) 3 ([.lit (.slice none 0 0),.lit (.slice none 0 0),.d (.int .i64 0)]) 56 (.agg ([.list [],.list [],.int .i64 0])):=by and_intros<;>kernel_rfl
@[simp] theorem anj:FF 340 0 0 337:=by and_intros<;>kernel_rfl
@[simp] theorem ank:FF 340 1 1 338:=by and_intros<;>kernel_rfl
@[simp] theorem anl:FF 340 2 2 3:=by and_intros<;>kernel_rfl
@[simp] theorem agU:bx Tryz.prog 340=some [(0,1),(1,1),(2,1)]:=by kernel_rfl
@[simp] theorem atM:T5 341 (.struct) 3 ([.d (.int .u16 0),.d (.int .u16 0),.d (.int .u16 0)]) 6 (.agg ([.int .u16 0,.int .u16 0,.int .u16 0])):=by and_intros<;>kernel_rfl
@[simp] theorem anm:FF 341 0 0 103:=by and_intros<;>kernel_rfl
@[simp] theorem ann:FF 341 1 1 103:=by and_intros<;>kernel_rfl
@[simp] theorem ano:FF 341 2 2 103:=by and_intros<;>kernel_rfl
@[simp] theorem agV:bx Tryz.prog 341=some [(0,1),(1,1),(2,1)]∧cu Tryz.prog 341=some [.int .u16,.int .u16,.int .u16]:=by and_intros<;>kernel_rfl
@[simp] theorem atN:T5 342 (.struct) 3 ([.d (.int .u16 0),.d (.int .u16 0),.d (.int .u16 0)]) 6 (.agg ([.int .u16 0,.int .u16 0,.int .u16 0])):=by and_intros<;>kernel_rfl
@[simp] theorem anp:FF 342 0 0 103:=by and_intros<;>kernel_rfl
@[simp] theorem anq:FF 342 1 1 103:=by and_intros<;>kernel_rfl
@[simp] theorem anr:FF 342 2 2 103:=by and_intros<;>kernel_rfl
@[simp] theorem agW:bx Tryz.prog 342=some [(0,1),(1,1),(2,1)]∧cu Tryz.prog 342=some [.int .u16,.int .u16,.int .u16]:=by and_intros<;>kernel_rfl
@[simp] theorem atO:T5 344 (.struct) 3 ([.d (.int .u32 0),.d (.int .u32 0),.d (.int .u32 0)]) 12 (.agg ([.int .u32 0,.int .u32 0,.int .u32 0])):=by and_intros<;>kernel_rfl
@[simp] theorem ans:FF 344 0 0 308:=by and_intros<;>kernel_rfl
@[simp] theorem ant:FF 344 1 1 308:=by and_intros<;>kernel_rfl
@[simp] theorem anu:FF 344 2 2 308:=by and_intros<;>kernel_rfl
@[simp] theorem agX:bx Tryz.prog 344=some [(0,1),(1,1),(2,1)]∧cu Tryz.prog 344=some [.int .u32,.int .u32,.int .u32]:=by and_intros<;>kernel_rfl
@[simp] theorem atP:T5 345 (.struct) 3 ([.d (.int .u32 0),.d (.int .u32 0),.d (.int .u32 0)]) 12 (.agg ([.int .u32 0,.int .u32 0,.int .u32 0])):=by and_intros<;>kernel_rfl
@[simp] theorem anv:FF 345 0 0 308:=by and_intros<;>kernel_rfl
@[simp] theorem anw:FF 345 1 1 308:=by and_intros<;>kernel_rfl
@[simp] theorem anx:FF 345 2 2 308:=by and_intros<;>kernel_rfl
@[simp] theorem agY:bx Tryz.prog 345=some [(0,1),(1,1),(2,1)]∧cu Tryz.prog 345=some [.int .u32,.int .u32,.int .u32]:=by and_intros<;>kernel_rfl
@[simp] theorem atQ:T2 356 (.ptr 342) 1:=by and_intros<;>kernel_rfl
@[simp] theorem atS:T2 357 (.ptr 345) 1:=by and_intros<;>kernel_rfl
@[simp] theorem atT:T5 364 (.slice 138) 1 ([.lit (.slice none 0 0)]) 24 (.list []):=by and_intros<;>kernel_rfl
@[simp] theorem akb:eN Tryz.prog 364=true:=by kernel_rfl
@[simp] theorem atU:T3 367 (.struct) 4 ([.lit (.pointer none),.lit (.pointer none),.lit (.pointer none),.d (.str [])]):=by and_intros<;>kernel_rfl
@[simp] theorem anz:FF 367 0 0 17:=by and_intros<;>kernel_rfl
@[simp] theorem anA:FF 367 1 1 17:=by and_intros<;>kernel_rfl
@[simp] theorem anB:FF 367 2 2 17:=by and_intros<;>kernel_rfl
@[simp] theorem anC:FF 367 3 3 9:=by and_intros<;>kernel_rfl
@[simp] theorem agZ:bx Tryz.prog 367=some [(0,1),(1,1),(2,1),(3,1)]:=by kernel_rfl
@[simp] theorem atV:T3 368 (.struct) 4 ([.lit (.pointer none),.lit (.pointer none),.lit (.pointer none),.d (.str [])]):=by and_intros<;>kernel_rfl
@[simp] theorem anD:FF 368 0 0 17:=by and_intros<;>kernel_rfl
@[simp] theorem anE:FF 368 1 1 17:=by and_intros<;>kernel_rfl
@[simp] theorem anF:FF 368 2 2 17:=by and_intros<;>kernel_rfl
@[simp] theorem anG:FF 368 3 3 9:=by and_intros<;>kernel_rfl
@[simp] theorem ag0:bx Tryz.prog 368=some [(0,1),(1,1),(2,1),(3,1)]:=by kernel_rfl
@[simp] theorem atW:T5 369 (.arr 0 16) 0 ([]) 0 (.agg ([])):=by and_intros<;>kernel_rfl
@[simp] theorem ag1:bx Tryz.prog 369=none:=by kernel_rfl
@[simp] theorem atX:T5 370 (.struct) 0 ([]) 0 (.agg ([])):=by and_intros<;>kernel_rfl
@[simp] theorem ag2:bx Tryz.prog 370=some [(0,0)]:=by kernel_rfl
@[simp] theorem atY:T5 371 (.struct) 0 ([]) 0 (.agg ([])):=by and_intros<;>kernel_rfl
@[simp] theorem ag3:bx Tryz.prog 371=some [(0,0)]:=by kernel_rfl
@[simp] theorem atZ:T5 372 (.int .u8) 1 ([.d (.int .u8 0)]) 1 (.int .u8 0):=by and_intros<;>kernel_rfl
@[simp] theorem at0:T5 373 (.int .u8) 1 ([.d (.int .u8 0)]) 1 (.int .u8 0):=by and_intros<;>kernel_rfl
@[simp] theorem at1:T2 374 (.func) 1:=by and_intros<;>kernel_rfl
@[simp] theorem at3:T2 375 (.ptr 5) 1:=by and_intros<;>kernel_rfl
@[simp] theorem at4:T5 376 (.int .i32) 1 ([.d (.int .i32 0)]) 4 (.int .i32 0):=by and_intros<;>kernel_rfl
@[simp] theorem at5:T5 377 (.int .i32) 1 ([.d (.int .i32 0)]) 4 (.int .i32 0):=by and_intros<;>kernel_rfl
@[simp] theorem at6:T3 378 (.struct) 11 ([.d (.int .u64 0),.d (.int .u64 0),.d (.int .u32 0),.d (.int .u8 0),.d (.int .u8 0),.d (.int .u8 0),.d (.int .u8 0),.lit .nilFunc,.lit (.pointer none),.d (.int .i32 0),.d (.int .i32 0)]):=by and_intros<;>kernel_rfl
@[simp] theorem anH:FF 378 0 0 12:=by and_intros<;>kernel_rfl
@[simp] theorem anI:FF 378 1 1 12:=by and_intros<;>kernel_rfl
@[simp] theorem anJ:FF 378 2 2 308:=by and_intros<;>kernel_rfl
@[simp] theorem anK:FF 378 3 3 372:=by and_intros<;>kernel_rfl
@[simp] theorem anL:FF 378 4 4 5:=by and_intros<;>kernel_rfl
@[simp] theorem anM:FF 378 5 5 5:=by and_intros<;>kernel_rfl
@[simp] theorem anN:FF 378 6 6 373:=by and_intros<;>kernel_rfl
@[simp] theorem anO:FF 378 7 7 374:=by and_intros<;>kernel_rfl
@[simp] theorem anP:FF 378 8 8 375:=by and_intros<;>kernel_rfl
@[simp] theorem anQ:FF 378 9 9 376:=by and_intros<;>kernel_rfl
@[simp] theorem akc:FF 378 10 10 377:=by and_intros<;>kernel_rfl
@[simp] theorem ag4:bx Tryz.prog 378=some [(0,1),(1,1),(2,1),(3,1),(4,1),(5,1),(6,1),(7,1),(8,1),(9,1),(10,1)]:=by kernel_rfl
@[simp] theorem at7:T3 379 (.struct) 11 ([.d (.int .u64 0),.d (.int .u64 0),.d (.int .u32 0),.d (.int .u8 0),.d (.int .u8 0),.d (.int .u8 0),.d (.int .u8 0),.lit .nilFunc,.lit (.pointer none),.d (.int .i32 0),.d (.int .i32 0)]):=by and_intros<;>kernel_rfl
@[simp] theorem anR:FF 379 0 0 12:=by and_intros<;>kernel_rfl
@[simp] theorem anS:FF 379 1 1 12:=by and_intros<;>kernel_rfl
@[simp] theorem anT:FF 379 2 2 308:=by and_intros<;>kernel_rfl
@[simp] theorem anU:FF 379 3 3 372:=by and_intros<;>kernel_rfl
@[simp] theorem anV:FF 379 4 4 5:=by and_intros<;>kernel_rfl
@[simp] theorem anW:FF 379 5 5 5:=by and_intros<;>kernel_rfl
@[simp] theorem anX:FF 379 6 6 373:=by and_intros<;>kernel_rfl
@[simp] theorem anY:FF 379 7 7 374:=by and_intros<;>kernel_rfl
@[simp] theorem anZ:FF 379 8 8 375:=by and_intros<;>kernel_rfl
@[simp] theorem an0:FF 379 9 9 376:=by and_intros<;>kernel_rfl
@[simp] theorem akd:FF 379 10 10 377:=by and_intros<;>kernel_rfl
@[simp] theorem ag5:bx Tryz.prog 379=some [(0,1),(1,1),(2,1),(3,1),(4,1),(5,1),(6,1),(7,1),(8,1),(9,1),(10,1)]:=by kernel_rfl
end Go.Am
end
section
namespace Go.Am
open Go
def idxO:List D→Option D
 |[.str s,.str t]=>if s.length<4294967281 then some (.int .i64 (Go.Lib.index s t))else none
 |_=>none
def ibO:List D→Option D
 |[.str s,.int .u8 c]=>some (.int .i64 (Go.Lib.indexByte s c.toNat.toUInt8))
 |_=>none
def hpO:List D→Option D
 |[.str s,.str p]=>some (.bool (Go.Lib.hasPrefix s p))
 |_=>none
attribute [simp] idxO.eq_1 ibO.eq_1 hpO.eq_1
section
variable {X:Ctx} {cl:bq} {md:Bool} {all:List Oper} {S:St}
@[simp] theorem afS{d:Option Tmp}{op:Op}{ty:TypeId}{pos:String}{af:Array Edge}:dZ X cl md all S ⟨d,op,ty,pos,af,none⟩=dstep X cl S ⟨d,op,ty,pos,af,none⟩ (stepv X.P S ⟨d,op,ty,pos,af,none⟩):=rfl
@[simp] theorem an1{js:List Nat}{i:Nat}{acc:List aU}:qz X md all js i [] S acc=some (revA acc []):=by rw[zh,List.append_nil];rfl
theorem pOps_cons{js:List Nat}{i:Nat}{o:Oper}{r:List Oper}{acc:List aU}:qz X md all js i (o::r) S acc=if js.contains i=true then (match dZ X (fun _ _ _=>none) md all S o with
 |some (S1,p)=>qz X md all js (i+1) r S1 (p::acc)
 |none=>none)else qz X md all js (i+1) r (S.put o.dst false .bf) (⟨[],[],false,.bf⟩::acc):=by
 simp only[qz];cases js.contains i<;>rfl
end
attribute [simp] pOps_cons dstep.eq_1 dstep.eq_2 dstep.eq_3 panE.eq_1 pEnd.eq_1 pEnd.eq_2 verSum.eq_1 verSum.eq_2 verSums.eq_1 verSums.eq_2 killM.eq_1 killM.eq_2 St.kill.eq_1 farE.eq_1 farE.eq_2 farJ.eq_1 farJ.eq_2
attribute [simp] el_frz el_back el_callK el_dcallK
section
variable {ε σ α:Type} {X:Ctx} {md:Bool} {nd:Nat×List (List Nat)} {S:St} {d:Option Nat} {all q:List Oper} {acc:List aU} {k:Kt} {r:PR ε σ α} {f:α→σ→Option fK} {g:ε→σ→Option fK}
@[simp] theorem ake:dcallG X md nd S d all q acc k (r.el f g)=r.el (fun a s=>dcallG X md nd S d all q acc k (f a s)) (fun e s=>dcallG X md nd S d all q acc k (g e s)):=by cases r<;>rfl
@[simp] theorem arn:memC S (r.el f g)=r.el (fun a s=>memC S (f a s)) (fun e s=>memC S (g e s)):=by cases r<;>rfl
@[simp] theorem aro{p:ay}{n0:Nat}{rs:List ResultVar}{f:α→σ→Option St}{g:ε→σ→Option St}:finM X p n0 rs (r.el f g)=r.el (fun a s=>finM X p n0 rs (f a s)) (fun e s=>finM X p n0 rs (g e s)):=by cases r<;>rfl
end
attribute [simp] denKD_seq denKD_cond denKD_ret denKD_skip denKD_loop denKD_block denKD_draw denKD_reg runKD_nil runKD_cons
attribute [simp] seqKD.eq_1 leaveKD.eq_1 nextKD.eq_1 oneKD.eq_1 oneKD.eq_2 finKD.eq_1 finKD.eq_2 finM.eq_1 finM.eq_2 memC.eq_1 recA.eq_1 recA.eq_2 recA.eq_3 finD1.eq_1 denRK_seq finRK.eq_1 finRK.eq_2
section
variable {X:Ctx} {f:FuncId} {S:St} {ds:List DF} {kd:yt} {b:Code}
@[simp] theorem arp:seqKD X f b kd .ret S ds=kd .ret S ds:=rfl
@[simp] theorem arq{t:TypeId}{x:D}:seqKD X f b kd (.panic t x) S ds=kd (.panic t x) S ds:=rfl
@[simp] theorem ars{i:Nat}:seqKD X f b kd (.exit i) S ds=kd (.exit i) S ds:=rfl
@[simp] theorem akf{id:Nat}{t:TypeId}{x:D}:leaveKD X f id kd (.panic t x) S ds=kd (.panic t x) S ds:=rfl
@[simp] theorem an2{md:Bool}{all r:List Oper}{t:TypeId}{x:D}:nextKD X md all r ds kd (.panic t x) S=kd (.panic t x) S ds:=rfl
end
@[simp] theorem aaI:contKeys none=[]:=rfl
@[simp] theorem aaJ(k v:Nat):contKeys (some ⟨k,v,.dead⟩)=[]:=rfl
@[simp] theorem aca(k v:Nat)(cs:List AV):contKeys (some ⟨k,v,.box cs⟩)=avsKeys cs:=rfl
@[simp] theorem acb(k v sz:Nat)(rows:List D):contKeys (some ⟨k,v,.vec sz rows⟩)=[]:=rfl
@[simp] theorem acd(k v:Nat)(rows:List (List D)):contKeys (some ⟨k,v,.vv rows none⟩)=[]:=rfl
@[simp] theorem afT(k v:Nat)(rows:List (List D))(x:AV):contKeys (some ⟨k,v,.vv rows (some x)⟩)=avKeys x:=rfl
@[simp] theorem art(m ρ bor nv rows y):selC m ρ bor nv (.vv rows y)=.vv rows (y.map (vw m ρ bor nv)):=rfl
@[simp] theorem akg(rows y):plainC (.vv rows y)=(rows.all plainDs&&(match y with|none=>true|some x=>plainAV x)):=rfl
@[simp] theorem aua(ρ bs rows y):upC ρ bs (.vv rows y)=.vv rows (y.map (up ρ bs)):=rfl
@[simp] theorem aru(τ rows y):mapC τ (.vv rows y)=.vv rows (y.map τ):=rfl
@[simp] theorem an3{n0:Nat}{b:Bool}{c:Prop}[Decidable c]{x y:Option (Out×List (Nat×aE))}:frzR n0 b (if c then x else y)=if c then frzR n0 b x else frzR n0 b y:=by split<;>rfl
@[simp] theorem aaK(P t k0 len ps):gB P t k0 len ps none=none:=by
 unfold gB;split<;>simp_all
@[simp] theorem ag6(P t k0 len n x o):gB P t k0 len [(n,.d x)] o=none:=by
 unfold gB;split<;>simp_all
@[simp] theorem ace(P t k0 len n x o):gB P t k0 len [(n,.agg x)] o=none:=by
 unfold gB;split<;>simp_all
@[simp] theorem acf(P t k0 len o):gB P t k0 len [] o=none:=by
 unfold gB;split<;>simp_all
@[simp] theorem acg(P t k0 len p q r o):gB P t k0 len (p::q::r) o=none:=by
 unfold gB;split<;>simp_all
@[simp] theorem ach(P t k0 len k v c):gB P t k0 len [(0,.lit (.slice none 0 0))] (some ⟨k,v,c⟩)=(match tk P t with
 | .slice e=>match fi P e,lJ P e with
  |some sz,some _=>some (.cZ (sz=1∧len=1) (.vec k0 (v+1) 0 1) ⟨k0,v+1,.box [.lit (.slice none 0 0)]⟩)
  |_,_=>none
 |_=>none):=rfl
attribute [simp] buildSlice0.eq_1
attribute [simp] storeV.eq_1 appV.eq_1
attribute [simp] Gh.go St.opn.eq_1 St.cls.eq_1 St.shut.eq_1 St.adoptV.eq_1
end Go.Am
end
section
namespace Go.Am
open Go
open Go.Proofs
set_option maxRecDepth 10000
@[simp] def W2:Nat→List Nat
 |0=>[1]
 |1=>[1,9]
 |2=>[2]
 |3=>[1,12]
 |4=>[2]
 |5=>[3,4]
 |6=>[3,19]
 |7=>[2]
 |8=>[3,5]
 |9=>[3,5,49]
 |10=>[2]
 |11=>[3,5,6]
 |12=>[3,5,6,52]
 |13=>[3,5,6]
 |14=>[3,5,6,7]
 |15=>[3,5,6,7,61]
 |16=>[3,5,6,7,61,62]
 |17=>[3,5,6,7,61,62]
 |18=>[3,5,6,73]
 |19=>[2]
 |20=>[3,5,6,7,61,74]
 |21=>[3,5,6,79]
 |22=>[2]
 |23=>[3,5,6,7,61,80]
 |24=>[3,5,6,7,61,80]
 |25=>[3,5,6,7,61,80]
 |26=>[3,5,6,7,80]
 |27=>[3,5,6,94]
 |28=>[2]
 |29=>[2]
 |_=>[]
@[simp] def md8:Nat→Bool
 |9=>true
 |_=>false
@[simp] def fp8:ay:=⟨[],false,[150,250,450],[],false⟩
@[simp] def W3:Nat→List Nat
 |0=>[1]
 |1=>[1,8]
 |2=>[2]
 |3=>[1,11]
 |4=>[2]
 |5=>[1,3,4]
 |6=>[3,4,5,6]
 |7=>[2]
 |_=>[]
@[simp] def md9:Nat→Bool
 |7=>true
 |_=>false
@[simp] def fp9:ay:=⟨[],false,[150,250,350],[],false⟩
@[simp] def R6:Nat→List Nat
 |0=>[1]
 |1=>[1,8]
 |2=>[2]
 |3=>[1,11]
 |4=>[2]
 |5=>[1,3,4]
 |6=>[1,3,18]
 |7=>[2]
 |8=>[1,3,5]
 |9=>[1,3,5,6]
 |10=>[1,3,5,6,23]
 |11=>[1,3,5,6]
 |12=>[1,3,5,6,32]
 |13=>[1,3,5,6]
 |14=>[2]
 |_=>[]
@[simp] def UZ:ay:=⟨[],false,[150,250],[],false⟩
@[simp] def R7:Nat→List Nat
 |0=>[1]
 |1=>[1,3]
 |2=>[2]
 |_=>[]
@[simp] def U0:ay:=⟨[],false,[150],[],false⟩
@[simp] def R8:Nat→List Nat
 |0=>[1]
 |1=>[1,14]
 |2=>[2]
 |3=>[1,3]
 |4=>[1,3,19]
 |5=>[1,3]
 |6=>[1,3,4]
 |7=>[1,3,4,40]
 |8=>[2]
 |9=>[1,3,4,54]
 |10=>[2]
 |11=>[1,3,4,93]
 |12=>[2]
 |13=>[1,3,125]
 |14=>[2]
 |15=>[2]
 |_=>[]
@[simp] def aci:Nat→Bool
 |9=>true
 |11=>true
 |13=>true
 |_=>false
@[simp] def U1:ay:=⟨[],false,[150,300],[],false⟩
@[simp] def R9:Nat→List Nat
 |0=>[1,2]
 |1=>[1,2,3]
 |2=>[1,2,3,4]
 |3=>[1,2,3,4,11]
 |4=>[1,2,3,4]
 |5=>[1,2,3,4,6]
 |6=>[1,2,3,4,28]
 |7=>[2]
 |8=>[1,2,3,4]
 |9=>[1,2,3,4,45]
 |10=>[2]
 |11=>[2]
 |_=>[]
@[simp] def acj:Nat→List (List Nat)
 |5=>[[2,4,5,6,7,8,9,14],[2,4,5,6,7,8,9,14],[0,1,4,5,6,7,8,9,14],[4,5,6,7,8,9,14],[0,1,2,3,6,14],[0,1,2,3,6,14],[0,1,2,3,4,5,14],[0,1,2,3,14],[0,1,2,3,14],[0,1,2,3,14],[14],[14],[13,14],[12,14,15],[0,1,2,3,4,5,6,7,8,9,10,11,12,13],[13],[]]
 |_=>[]
@[simp] def U2:ay:=⟨[],false,[150,200,350],[],false⟩
@[simp] def Sa:Nat→List Nat
 |0=>[1,2]
 |1=>[1,2,4]
 |2=>[1,2,4,5]
 |3=>[2,4,5]
 |4=>[2,4,5]
 |5=>[2,4,5]
 |6=>[2,4,5,39]
 |7=>[2,3]
 |8=>[2,3]
 |_=>[]
@[simp] def ack:Nat→List (List Nat)
 |8=>[[4,5,6,7,8],[4,5,6,7,8],[4,5,6,7,8],[4,5,6,7,8],[0,1,2,3,5,6,7,8],[0,1,2,3,4],[0,1,2,3,4],[0,1,2,3,4],[0,1,2,3,4],[],[],[]]
 |_=>[]
@[simp] def acm:Nat→List Gh
 |2=>[.adopt 700 3 701 5,.adoptV 700 7 702,.adopt 700 8 703 1]
 |_=>[]
@[simp] def U3:ay:=⟨[],false,[150,200,700,701,702,703],[],false⟩
@[simp] def Sb:Nat→List Nat
 |0=>[2,3]
 |1=>[2,3,26]
 |2=>[4]
 |3=>[2,3,5]
 |4=>[2,3,5,31]
 |5=>[2,3,5]
 |6=>[2,3,5,44]
 |7=>[4]
 |8=>[4]
 |_=>[]
@[simp] def acn:Nat→List (List Nat)
 |6=>[[2,5,6,7,8,9],[2,5,6,7,8,9],[0,1,5,6,7,8,9],[5,6,7,8,9],[5,6,7,8,9],[0,1,2,3,4,7],[0,1,2,3,4,7],[0,1,2,3,4,5,6],[0,1,2,3,4],[0,1,2,3,4],[]]
 |_=>[]
@[simp] def aco:ay:=⟨[],false,[200,250],[],false⟩
@[simp] def Sc:Nat→List Nat
 |0=>[]
 |1=>[1]
 |2=>[4,5]
 |3=>[0]
 |_=>[]
@[simp] def acp:Nat→Bool
 |3=>true
 |_=>false
@[simp] def U4:ay:=⟨[],false,[150,250,300],[],false⟩
@[simp] def Sd:Nat→List Nat
 |0=>[1]
 |1=>[2]
 |_=>[]
@[simp] def acq:Nat→Bool
 |1=>true
 |_=>false
@[simp] def U5:ay:=⟨[],false,[150],[],false⟩
@[simp] def Se:Nat→List Nat
 |0=>[1,2]
 |1=>[1,2]
 |2=>[2]
 |_=>[]
@[simp] def U6:ay:=⟨[],false,[150,200],[],false⟩
@[simp] def Sf:Nat→List Nat
 |0=>[0]
 |1=>[0,3]
 |2=>[0,3,4]
 |3=>[0,3,4,9]
 |4=>[0,3,4]
 |5=>[0,3,4]
 |6=>[0,3,4,35]
 |7=>[0,3,4]
 |8=>[0,3,4,5]
 |9=>[0,3,4,5,45]
 |10=>[0,3,4,5]
 |11=>[0,3,4,5]
 |12=>[2]
 |_=>[]
@[simp] def acr:Nat→Bool
 |6=>true
 |_=>false
@[simp] def U7:ay:=⟨[],false,[],[],false⟩
@[simp] def Sg:Nat→List Nat
 |0=>[1,2]
 |1=>[2,6,7]
 |2=>[4,5]
 |_=>[]
@[simp] def U8:ay:=⟨[],false,[200],[],false⟩
@[simp] def Si:Nat→List Nat
 |0=>[0]
 |1=>[0,17]
 |2=>[2]
 |3=>[0,3]
 |4=>[0,3,21]
 |5=>[0,3]
 |6=>[0,3,4]
 |7=>[0,3,4,5]
 |8=>[0,3,58]
 |9=>[2]
 |10=>[2]
 |_=>[]
@[simp] def acs:Nat→Bool
 |1=>true
 |7=>true
 |8=>true
 |_=>false
@[simp] def U9:ay:=⟨[],false,[],[],false⟩
@[simp] def Sj:Nat→List Nat
 |0=>[0]
 |1=>[0,3]
 |2=>[0,3,4]
 |3=>[0,3,4,9]
 |4=>[0,3,4]
 |5=>[0,3,4,18]
 |6=>[2]
 |7=>[2]
 |_=>[]
@[simp] def Va:ay:=⟨[],false,[],[],false⟩
@[simp] def Sk:Nat→List Nat
 |0=>[0]
 |1=>[0,3]
 |2=>[0,3,20]
 |3=>[0,3]
 |4=>[0,3,4]
 |5=>[0,3,4,5,6,7]
 |6=>[0,3,4,6,7,59]
 |7=>[2]
 |8=>[0,3,4,7,89]
 |9=>[2]
 |10=>[0,3,4,118]
 |11=>[2]
 |12=>[0,3,4,8,9,10,11,12]
 |13=>[0,3,4,8,9,10,11,12,120]
 |14=>[0,3,4,8,9,10,11,12,120,121]
 |15=>[0,3,4,8,9,10,11,12]
 |16=>[0,3,4,8,9,10,11,12,120,131]
 |17=>[0,3,4,8,9,10,11,12]
 |18=>[0,3,4,8,9,10,11,12,120,139]
 |19=>[0,3,4,8,9,10,11,12]
 |20=>[0,3,4,8,9,10,11,12,120,141]
 |21=>[0,3,4,8,9,10,11,12,120,141]
 |22=>[0,3,4,8,9,10,11,12]
 |23=>[0,3,4,8,9,10,11,12,144]
 |24=>[0,3,4,8,9,10,11,12]
 |25=>[0,3,4,186]
 |26=>[2]
 |27=>[0,3,4,13]
 |28=>[0,3,4,13,191]
 |29=>[0,3,4,13]
 |30=>[0,3,4,13,200]
 |31=>[2]
 |32=>[0,3,4,14]
 |33=>[0,3,4,14,205]
 |34=>[0,3,4,14]
 |35=>[0,3,4,14,224]
 |36=>[2]
 |37=>[0,3,4,14,15]
 |38=>[0,3,4,14,15,232]
 |39=>[0,3,4,14,15]
 |40=>[0,3,4,14,15,243]
 |41=>[2]
 |42=>[0,3,4,16]
 |43=>[0,3,4,16,248]
 |44=>[0,3,4,16]
 |45=>[0,3,4,16,257]
 |46=>[2]
 |47=>[2]
 |_=>[]
@[simp] def acu:Nat→Bool
 |6=>true
 |8=>true
 |10=>true
 |35=>true
 |_=>false
@[simp] def acv:Nat→List (List Nat)
 |15=>[[4,5,6,7],[4,5,6,7],[4,5,6,7],[4,5,6,7],[0,1,2,3,8],[0,1,2,3,8],[0,1,2,3,8],[0,1,2,3,8],[4,5,6,7],[],[]]
 |17=>[[3,4,5],[3,4,5],[3,4,5],[0,1,2,6],[0,1,2,6],[0,1,2,6],[3,4,5],[],[]]
 |24=>[[3,4,5],[3,4,5],[3,4,5],[0,1,2,6],[0,1,2,6],[0,1,2,6],[3,4,5],[]]
 |_=>[]
@[simp] def Vb:ay:=⟨[],false,[300],[],false⟩
@[simp] def Sl:Nat→List Nat
 |0=>[0,1,4]
 |1=>[0,1,4,6]
 |2=>[0,1,4,6,10]
 |3=>[0,1,4,6]
 |4=>[0,1,4,6,19]
 |5=>[4,5]
 |6=>[4,5]
 |_=>[]
@[simp] def Vc:ay:=⟨[],false,[300],[],false⟩
@[simp] def Sn:Nat→List Nat
 |0=>[1]
 |1=>[1,4]
 |2=>[2]
 |3=>[1,13]
 |4=>[2]
 |5=>[2]
 |_=>[]
@[simp] def Vd:ay:=⟨[],false,[150],[],false⟩
@[simp] def So:Nat→List Nat
 |0=>[0,1,2,6]
 |1=>[0,1,2,6,7]
 |2=>[0,1,2,6,7,12]
 |3=>[0,1,2,6,7]
 |4=>[0,1,2,6,7,8]
 |5=>[0,1,2,6,7,8,24]
 |6=>[6]
 |7=>[6]
 |_=>[]
@[simp] def Ve:ay:=⟨[],false,[400,500],[],false⟩
@[simp] def Sp:Nat→List Nat
 |0=>[1,2]
 |1=>[1,2,3]
 |2=>[2,3,8,9,10]
 |3=>[2,3,8,9,10,11]
 |4=>[2,3,5,8,9,10]
 |5=>[2,3,5,8,9,10]
 |6=>[2,3,5,6,8,9,10]
 |7=>[2,3,5,6,8,9,10]
 |8=>[2,3,5,8,9,10]
 |9=>[2,3,5,8,9,10,40]
 |10=>[2,3,8,9,10]
 |11=>[2,3,8,9,10]
 |12=>[2]
 |_=>[]
@[simp] def acw:Nat→List Gh
 |1=>[.adopt 250 0 251 1,.adopt 250 2 252 1]
 |_=>[]
@[simp] def Vf:ay:=⟨[],false,[150,200,250,251,252,350],[],false⟩
@[simp] def Sq:Nat→List Nat
 |0=>[0,6,7,8]
 |1=>[0,6,7,8,9]
 |2=>[0,5,6,7,8]
 |3=>[0,6,7,8]
 |4=>[0,6,7,8]
 |_=>[]
@[simp] def Vg:ay:=⟨[1,2,3,4,5,6,7,8],false,[350],[],false⟩
@[simp] def Sr:Nat→List Nat
 |0=>[0,6,7,8]
 |1=>[0,6,7,8,9]
 |2=>[0,5,6,7,8]
 |3=>[0,6,7,8]
 |4=>[0,6,7,8]
 |_=>[]
@[simp] def Vh:ay:=⟨[1,2,3,4,5,6,7,8],false,[],[1],false⟩
@[simp] def Ss:Nat→List Nat
 |0=>[0,2,4]
 |1=>[0,2]
 |2=>[0]
 |3=>[0]
 |4=>[6]
 |_=>[]
@[simp] def acx:Nat→List (List Nat)
 |1=>[[1,2,3,4,5,6,7],[0,5,6],[0,5,6],[0,5,6],[0,5,6],[0,1,2,3,4],[0,1,2,3,4],[0],[],[],[]]
 |3=>[[1,2,3,4,5,6,7,8,9],[0,5,6,7,8],[0,5,6,7,8],[0,5,6,7,8],[0,5,6,7,8],[0,1,2,3,4],[0,1,2,3,4],[0,1,2,3,4],[0,1,2,3,4],[0],[],[],[]]
 |_=>[]
@[simp] def Vi:ay:=⟨[1,2,3,4,5,6,7,8],false,[300],[],false⟩
@[simp] def Su:Nat→List Nat
 |0=>[0]
 |1=>[0,14]
 |2=>[2]
 |3=>[0,3]
 |4=>[0,3,4]
 |5=>[0,3,4,19]
 |6=>[0,3,4]
 |7=>[0,3,4,28]
 |8=>[3,4,5]
 |9=>[3,4,5,6]
 |10=>[3,4,5,6,36]
 |11=>[3,4,5,6]
 |12=>[3,4,5,6,7]
 |13=>[3,4,5,6,7,8]
 |14=>[3,4,5,6,7,8,52]
 |15=>[3,4,5,6,7,8]
 |16=>[3,4,5,6,7,8,55]
 |17=>[3,4,5,6,7,8]
 |18=>[3,4,5,6,8]
 |19=>[3,4,5,6]
 |20=>[2]
 |21=>[2]
 |_=>[]
@[simp] def Vj:ay:=⟨[],false,[350,500],[],false⟩
@[simp] def Sv:Nat→List Nat
 |0=>[0]
 |1=>[3,4]
 |2=>[3,12]
 |3=>[2]
 |4=>[3,5]
 |5=>[5,21,22]
 |6=>[5,21,22,23]
 |7=>[5,21,22]
 |8=>[5,21,22]
 |9=>[2]
 |_=>[]
@[simp] def acy:Nat→List (List Nat)
 |4=>[[3,4],[3,4],[3,4],[0,1,2],[0,1,2],[],[],[]]
 |_=>[]
@[simp] def Vk:ay:=⟨[],false,[250,851],[],false⟩
@[simp] def Sw:Nat→List Nat
 |0=>[0,2,3,4]
 |1=>[2,3,4,5]
 |2=>[2,3,4,5,14]
 |3=>[2,3,4]
 |4=>[2,3,4,5]
 |5=>[2,3,4,6]
 |6=>[2,3,4]
 |_=>[]
@[simp] def acz:Nat→List (List Nat)
 |3=>[[1,2],[0,2,3],[0,1,3,4],[1,2],[2],[]]
 |_=>[]
@[simp] def acA:Nat→List Gh
 |5=>[.adopt 1150 3 1151 8]
 |_=>[]
@[simp] def Ht:ay:=⟨[],false,[200,250,300,1150,1151],[],false⟩
@[simp] def Sx:Nat→List Nat
 |0=>[0]
 |1=>[0,3]
 |2=>[3,9,10,11]
 |3=>[3,9,10,11,12]
 |4=>[3,5,9,10,11]
 |5=>[3,5,9,10,11]
 |6=>[3,5,6,9,10,11]
 |7=>[3,5,6,9,10,11,28,29,30]
 |8=>[3,5,6,9,10,11,28,29,30,31]
 |9=>[3,5,6,8,9,10,11,28,29,30]
 |10=>[3,5,6,9,10,11,28,29,30]
 |11=>[3,5,6,9,10,11,28,29,30]
 |12=>[3,5,9,10,11]
 |13=>[3,9,10,11]
 |14=>[3,9,10,11]
 |15=>[2]
 |_=>[]
@[simp] def acB:Nat→List (List Nat)
 |5=>[[3,4,6,7],[3,4,6,7],[3,4,6,7],[0,1,2,6,7],[0,1,2,6,7],[6,7,9],[0,1,2,3,4,5],[0,1,2,3,4,5],[9],[5,8],[],[],[],[],[]]
 |_=>[]
@[simp] def acC:Nat→List Gh
 |1000002=>[.freeze 400]
 |_=>[]
@[simp] def Vm:ay:=⟨[],false,[250,350,400],[],false⟩
@[simp] def Sy:Nat→List Nat
 |0=>[0,1]
 |1=>[0,1,6,7]
 |2=>[0,1,6,7,8]
 |3=>[0,1,6,7,8,26]
 |4=>[0,1,6,7,8]
 |5=>[0,1,6,7,8]
 |6=>[0,1,6,7,8,9]
 |7=>[0,1,6,7,8,9,42,43,44]
 |8=>[0,1,6,7,8,9,42,43,44,45]
 |9=>[0,1,6,7,8,9,11,42,43,44]
 |10=>[0,1,6,7,8,9,12,13,42,43,44]
 |11=>[0,1,6,7,8,9,13,42,43,44]
 |12=>[0,1,6,7,8,9,42,43,44]
 |13=>[0,1,6,7,8,9,42,43,44]
 |14=>[0,1,6,7,8,9]
 |15=>[0,1,6,7,8,9,14]
 |16=>[0,1,6,7,8,9,14,88]
 |17=>[0,1,6,7,8,9,14]
 |18=>[0,1,6,7,8,9,14]
 |19=>[0,1,6,7,8,9,15]
 |20=>[0,1,6,7,8,9,15,111]
 |21=>[0,1,6,7,8,9,15]
 |22=>[0,1,6,7,8,9,15,16,17]
 |23=>[0,1,6,7,8,9,15,17]
 |24=>[0,1,6,7,8,9,15]
 |25=>[4,5]
 |_=>[]
@[simp] def Vn:ay:=⟨[],false,[550],[],false⟩
@[simp] def Sz:Nat→List Nat
 |0=>[0]
 |1=>[0,5,6,7]
 |2=>[0,5,6,7,8]
 |3=>[0,4,5,6,7]
 |4=>[0,5,6,7,13]
 |5=>[2]
 |6=>[0,5,6,7]
 |7=>[2]
 |_=>[]
@[simp] def Vo:ay:=⟨[],false,[],[],false⟩
@[simp] def SA:Nat→List Nat
 |0=>[]
 |1=>[0]
 |_=>[]
@[simp] def acD:ay:=⟨[],false,[],[],false⟩
@[simp] def SB:Nat→List Nat
 |0=>[0]
 |1=>[2,3,4]
 |_=>[]
@[simp] def Vp:ay:=⟨[],false,[],[],false⟩
@[simp] def SC:Nat→List Nat
 |0=>[0]
 |1=>[0,3]
 |2=>[0,3,11]
 |3=>[0,3]
 |4=>[0,3,4]
 |5=>[0,3,4,5,6,7]
 |6=>[0,3,4,5,6,7,18]
 |7=>[0,3,4,5,6,7,18]
 |8=>[0,3,4,5,6,7,18]
 |9=>[0,3,4,5,6,7,18]
 |10=>[0,3,4,5,6,7,18]
 |11=>[2]
 |12=>[0,3,4,5,6,7,54]
 |13=>[0,3,4,5,6,7]
 |14=>[0,3,4,5,6,7,58]
 |15=>[0,3,4,5,6,7]
 |16=>[0,3,4,5,6,7,62]
 |17=>[0,3,4,5,6,7]
 |18=>[0,3,4,5,6,7,66]
 |19=>[0,3,4,5,6,7]
 |20=>[0,3,4,5,6,7,75]
 |21=>[0,3,4,5,6,7]
 |22=>[0,3,125]
 |23=>[2]
 |24=>[2]
 |_=>[]
@[simp] def acE:Nat→Bool
 |7=>true
 |22=>true
 |_=>false
@[simp] def Vq:ay:=⟨[],false,[300],[],false⟩
@[simp] def SD:Nat→List Nat
 |0=>[1]
 |1=>[2]
 |_=>[]
@[simp] def Vs:ay:=⟨[],false,[150],[],false⟩
@[simp] def SF:Nat→List Nat
 |0=>[0,2,4,6]
 |1=>[0,2,4,6,25]
 |2=>[0,2,4,6,25,26]
 |3=>[0,4,6,7,8]
 |4=>[0,4,6,7,37]
 |5=>[6]
 |6=>[0,4,6,44]
 |7=>[6]
 |8=>[0,4,6,9,10]
 |9=>[0,4,6,9,10,58]
 |10=>[6]
 |11=>[4,6,9,10,11]
 |12=>[4,6,9,10,11,69]
 |13=>[6]
 |14=>[4,6,73]
 |15=>[6]
 |16=>[0,2,4,6,25,77]
 |17=>[0,2,4,6,12]
 |18=>[0,2,4,6,12,83]
 |19=>[0,2,4,6,12]
 |20=>[0,2,4,6,12,90]
 |21=>[0,2,4,6,12,13]
 |22=>[0,2,4,6,12,13,100]
 |23=>[6]
 |24=>[0,2,4,6,12,14]
 |25=>[0,2,4,6,12,14,112]
 |26=>[6]
 |27=>[0,2,4,6,25,114]
 |28=>[0,2,4,6,15]
 |29=>[0,2,4,6,15,122]
 |30=>[6]
 |31=>[0,2,4,6,16]
 |32=>[0,2,4,6,16,128]
 |33=>[0,2,4,6,16]
 |34=>[0,2,4,6,16,17]
 |35=>[0,2,4,6,16,17,141]
 |36=>[6]
 |37=>[0,2,4,6,25,143]
 |38=>[0,4,6,18,19]
 |39=>[0,4,6,18,153]
 |40=>[6]
 |41=>[0,4,6,18,159]
 |42=>[6]
 |43=>[0,4,6,169]
 |44=>[6]
 |45=>[0,4,6,20]
 |46=>[0,4,6,20,177]
 |47=>[0,4,6,20]
 |48=>[0,4,6,20,21]
 |49=>[0,4,6,20,21,189]
 |50=>[6]
 |51=>[6]
 |52=>[0,2,4,6,25,197]
 |53=>[0,4,6,22]
 |54=>[0,4,6,22,205]
 |55=>[6]
 |56=>[6]
 |57=>[0,2,4,6,25,213]
 |58=>[0,4,6,23]
 |59=>[0,4,6,23,223]
 |60=>[6]
 |61=>[6]
 |62=>[0,2,4,6,25,229]
 |63=>[4,6,232]
 |64=>[6]
 |65=>[0,4,6,236]
 |66=>[6]
 |67=>[6]
 |_=>[]
@[simp] def Vt:ay:=⟨[],false,[300,400,450,600,750,800,850,950,1000,1150,1200,1250],[],false⟩
@[simp] def SG:Nat→List Nat
 |0=>[1]
 |1=>[1,3]
 |2=>[2]
 |3=>[1,12]
 |4=>[2]
 |5=>[2]
 |_=>[]
@[simp] def Vu:ay:=⟨[],false,[150],[],false⟩
@[simp] def SH:Nat→List Nat
 |0=>[2,3]
 |1=>[2,3]
 |2=>[2,3,8]
 |3=>[2,3,8,9]
 |4=>[]
 |5=>[2,3,8,14]
 |6=>[]
 |7=>[2,3,8,24]
 |8=>[]
 |9=>[2,3,8,29]
 |10=>[]
 |11=>[2,3,8,34]
 |12=>[2,3,8,34]
 |13=>[]
 |14=>[2,3,8,40]
 |15=>[2,4]
 |16=>[]
 |17=>[2,3,8,65]
 |18=>[]
 |19=>[2,3,78]
 |20=>[]
 |_=>[]
@[simp] def acF:Nat→List (List Nat)
 |16=>[[4,5,6,7,8,9,10,11,12,13,14,15],[4,5,6,7,8,9,10,11,12,13,14,15],[4,5,6,7,8,9,10,11,12,13,14,15],[4,5,6,7,8,9,10,11,12,13,14,15],[0,1,2,3,5,6,7,8,9,10,11,12,13,14,15],[0,1,2,3,4,9,12,13,14],[0,1,2,3,4,9,12,13,14],[0,1,2,3,4,9,12,13,14],[0,1,2,3,4,9,12,13,14],[0,1,2,3,4,5,6,7,8,12,13,14],[0,1,2,3,4,12,13,14],[0,1,2,3,4,12,13,14],[0,1,2,3,4,5,6,7,8,9,10,11],[0,1,2,3,4,5,6,7,8,9,10,11],[0,1,2,3,4,5,6,7,8,9,10,11],[0,1,2,3,4],[],[]]
 |18=>[[1,2,3,4,5,6,7,8],[0,5,6,7],[0,5,6,7],[0,5,6,7],[0,5,6,7],[0,1,2,3,4],[0,1,2,3,4],[0,1,2,3,4],[0],[],[],[]]
 |_=>[]
@[simp] def acG:Nat→List Gh
 |15=>[.opn 2 101]
 |16=>[.cls 2 101]
 |_=>[]
@[simp] def acH:Nat→List (Nat×Nat)
 |16=>[(0,7),(2,0)]
 |18=>[(0,8)]
 |_=>[]
@[simp] def Vv:ay:=⟨[1,2,3,4,5,6,7,8],false,[101,200,250],[],false⟩
@[simp] def SI:Nat→List Nat
 |0=>[]
 |_=>[]
@[simp] def acI:Nat→List (List Nat)
 |0=>[[4,5,6],[4,5,6],[4,5,6],[4,5,6],[0,1,2,3,5,6],[0,1,2,3,4],[0,1,2,3,4],[],[],[]]
 |_=>[]
@[simp] def acJ:Nat→List (Nat×Nat)
 |0=>[(0,3)]
 |_=>[]
@[simp] def Vw:ay:=⟨[1,2,3,4,5,6,7,8],false,[],[],false⟩
@[simp] def Kn:Nat→List Nat
 |0=>[1,2]
 |1=>[1,2,4]
 |2=>[2,4,5]
 |3=>[2,4,5,11]
 |4=>[2,3]
 |5=>[2,3]
 |_=>[]
@[simp] def OP:ay:=⟨[],false,[150,200],[],false⟩
@[simp] def Ko:Nat→List Nat
 |0=>[0,1]
 |1=>[0,1,5]
 |2=>[1,5,12,13,14]
 |3=>[1,5,12,13,14,15]
 |4=>[1,5,7,12,13,14]
 |5=>[1,5,7,8,12,13,14]
 |6=>[1,5,8,9,10,12,13,14]
 |7=>[1,5,8,9,12,13,14,26]
 |8=>[1,5,8,12,13,14]
 |9=>[1,5,12,13,14]
 |10=>[1,5,12,13,14]
 |11=>[4]
 |_=>[]
@[simp] def W4:ay:=⟨[],true,[300,350,500],[],false⟩
@[simp] def Kq:Nat→List Nat
 |0=>[0,4]
 |1=>[0,4,13]
 |2=>[2,3,4]
 |3=>[4,5]
 |4=>[4,5,6]
 |5=>[4,5,6,7]
 |6=>[4,5,6,7,8]
 |7=>[4,5,6,8,29]
 |8=>[2,3,4]
 |9=>[4,5,6,8,33]
 |10=>[2,3,4]
 |11=>[4,5,6,8,9,10]
 |12=>[4,5,6,8,9,10,50]
 |13=>[2,3,4]
 |14=>[4,5,6,9]
 |15=>[4,5,6]
 |_=>[]
@[simp] def W5:Nat→List (List Nat)
 |6=>[[4,5,6,7,9],[4,5,6,7,9],[4,5,6,7,9],[4,5,6,7,9],[0,1,2,3,9],[0,1,2,3,9],[0,1,2,3,9],[0,1,2,3,9],[9],[0,1,2,3,4,5,6,7,8],[]]
 |8=>[[1,2],[0],[0],[]]
 |11=>[[2,7],[2,7],[0,1,7],[7],[7],[6,7],[5,7,8],[0,1,2,3,4,5,6],[6],[]]
 |13=>[[1,2],[0,2,3],[0,1],[1],[]]
 |_=>[]
@[simp] def FE:ay:=⟨[],false,[200,300,400,500,550,950],[],false⟩
@[simp] def Kr:Nat→List Nat
 |0=>[0,1,2,3]
 |1=>[0,1,2,3,8]
 |2=>[0,1,2,3,4,5]
 |3=>[0,1,2,3,4,15]
 |4=>[0,1,2,4]
 |5=>[]
 |_=>[]
@[simp] def W6:Nat→List (List Nat)
 |5=>[[1,2,3,4],[0,3,4,5],[0,3,4,5],[0,1,2,5,6],[0,1,2,5,6],[1,2,3,4],[3,4],[]]
 |_=>[]
@[simp] def Cy:ay:=⟨[],false,[300],[],false⟩
@[simp] def Ks:Nat→List Nat
 |0=>[0,2]
 |1=>[0,2]
 |2=>[0,2,3]
 |3=>[0,2,3]
 |4=>[0,2,3]
 |5=>[0,2,3]
 |6=>[0,2,3]
 |7=>[2,3]
 |8=>[2]
 |_=>[]
@[simp] def W7:ay:=⟨[],false,[200,250],[],false⟩
@[simp] def Ku:Nat→List Nat
 |0=>[1,2]
 |1=>[1,2,3]
 |2=>[1,2,3,20,21,22]
 |3=>[1,2,3,20,21,22,23]
 |4=>[1,2,3,5,20,21,22]
 |5=>[1,2,3,20,21,22]
 |6=>[1,2,3,20,21,22]
 |7=>[1,2,3]
 |8=>[1,2,3,36]
 |9=>[2]
 |10=>[1,2,3,8]
 |11=>[1,2,3,44]
 |12=>[2]
 |13=>[1,2,3,9]
 |14=>[1,2,3,9,10]
 |15=>[1,2,9,10,46,47,48]
 |16=>[1,2,9,10,46,47,48,49]
 |17=>[1,2,9,10,12,46,47,48]
 |18=>[1,2,9,10,13,14,15,46,47,48]
 |19=>[1,2,9,10,13,14,46,47,48,59]
 |20=>[2]
 |21=>[1,2,9,10,14,46,47,48]
 |22=>[1,2,9,10,46,47,48]
 |23=>[1,2,9,10,46,47,48]
 |24=>[1,2,9,10,77]
 |25=>[2]
 |26=>[1,2,16,17,18]
 |27=>[1,2,16,17,98]
 |28=>[2]
 |29=>[2]
 |_=>[]
@[simp] def W8:Nat→Bool
 |27=>true
 |_=>false
@[simp] def OQ:ay:=⟨[],false,[150,200,250,350,550,700],[],false⟩
@[simp] def Kv:Nat→List Nat
 |0=>[0]
 |1=>[0,3]
 |2=>[3,6,7,8]
 |3=>[3,6,7,8,9]
 |4=>[3,5,6,7,8]
 |5=>[3,6,7,8]
 |6=>[3,6,7,8]
 |7=>[2]
 |_=>[]
@[simp] def OR:ay:=⟨[],false,[250,350],[],false⟩
@[simp] def Kw:Nat→List Nat
 |0=>[0,1]
 |1=>[0,1,6,7]
 |2=>[0,1,6,7,8]
 |3=>[0,1,6,7,8,19]
 |4=>[0,1,6,7,8]
 |5=>[0,1,6,7,8,9,10]
 |6=>[0,1,6,7,8,10]
 |7=>[0,1,6,7,8]
 |8=>[4,5]
 |_=>[]
@[simp] def OS:ay:=⟨[],false,[],[],false⟩
@[simp] def Kx:Nat→List Nat
 |0=>[0,3,5]
 |1=>[0,3,5,6]
 |2=>[0,3,5,6,21]
 |3=>[0,3,5,6,21,22]
 |4=>[0,3,5,6,21,22]
 |5=>[4,5]
 |6=>[0,3,5,6,21,28]
 |7=>[0,3,5,6,21,28]
 |8=>[0,3,5,6,28]
 |9=>[0,3,5,6,7,8]
 |10=>[0,3,5,6,7,40]
 |11=>[4,5]
 |12=>[0,3,5,6,7,46]
 |13=>[3,5,6,7,49]
 |14=>[4,5]
 |15=>[3,5,9,10]
 |16=>[3,5,9,60]
 |17=>[4,5]
 |18=>[4,5]
 |19=>[0,3,5,6,7,77]
 |20=>[4,5]
 |21=>[0,3,5,7,81]
 |22=>[5,7,11]
 |23=>[5,7,11,90]
 |24=>[4,5]
 |25=>[4,5]
 |26=>[0,3,5,6,12,13]
 |27=>[0,3,5,6,12,13,106]
 |28=>[4,5]
 |29=>[0,3,5,6,12,13,14]
 |30=>[0,3,5,6,12,13,14,112]
 |31=>[3,5,6,12,13,14]
 |32=>[3,5,6,12,13,14,124]
 |33=>[4,5]
 |34=>[3,5,6,12,14,15]
 |35=>[3,5,6,12,14,15,16]
 |36=>[5,6,12,14,15,16,127]
 |37=>[5,6,12,14,15,16,127,128]
 |38=>[5,6,12,14,15,16,127,128]
 |39=>[5,6,12,14,15,16,127,128]
 |40=>[5,6,12,14,15,16,127,128]
 |41=>[5,6,12,14,15,16,127,128]
 |42=>[5,6,12,14,15,16,127,128]
 |43=>[5,6,12,14,15,16]
 |44=>[5,6,12,14,15,16,127,135]
 |45=>[5,6,12,14,15,16,127,135]
 |46=>[5,6,12,14,15,16]
 |47=>[5,6,12,14,15,16,127,139]
 |48=>[5,6,12,14,15,16,127,139]
 |49=>[5,6,12,14,15,16,127,139]
 |50=>[5,6,12,14,15,16,139]
 |51=>[5,6,12,14,15,16]
 |52=>[5,6,16,151]
 |53=>[4,5]
 |54=>[4,5]
 |_=>[]
@[simp] def W9:Nat→List (List Nat)
 |11=>[[3],[3],[3],[0,1,2],[]]
 |14=>[[1],[0],[]]
 |17=>[[3],[3],[3],[0,1,2],[]]
 |20=>[[1],[0],[]]
 |24=>[[1],[0],[]]
 |28=>[[1],[0],[]]
 |33=>[[1],[0],[]]
 |53=>[[1],[0],[]]
 |_=>[]
@[simp] def OT:ay:=⟨[],false,[250,350,400,450,550,650,750],[],false⟩
@[simp] def Ky:Nat→List Nat
 |0=>[0,2,4,6]
 |1=>[2,4,6,7,8]
 |2=>[4,6,8,22]
 |3=>[6]
 |4=>[6]
 |_=>[]
@[simp] def OU:ay:=⟨[],false,[300,400,500],[],false⟩
@[simp] def Kz:Nat→List Nat
 |0=>[0,3,4]
 |1=>[0,3,4,5,6]
 |2=>[0,3,4,5,20]
 |3=>[4]
 |4=>[0,3,4,5,26]
 |5=>[4]
 |6=>[0,3,4,5,7]
 |7=>[0,3,4,5,7,34]
 |8=>[0,3,4,5,7]
 |9=>[0,3,4,5,7,8,9]
 |10=>[0,3,4,5,7,8,54]
 |11=>[4]
 |12=>[0,3,4,5,7,8,10]
 |13=>[0,3,4,5,7,8,10,60]
 |14=>[0,3,4,5,7,8,10]
 |15=>[0,3,4,5,7,8,10,73]
 |16=>[4]
 |17=>[0,3,4,5,7,11]
 |18=>[0,3,4,5,7,11,88]
 |19=>[4]
 |20=>[4]
 |_=>[]
@[simp] def Xa:Nat→List (List Nat)
 |9=>[[2,3,4,5,6,11],[2,3,4,5,6,11],[0,1,4,11],[0,1,4,11],[0,1,2,3,11],[0,1,11],[0,1,11],[11],[11],[10,11],[9,11,12],[0,1,2,3,4,5,6,7,8,9,10],[10],[]]
 |15=>[[2,5,6,7,8,9],[2,5,6,7,8,9],[0,1,5,6,7,8,9],[5,6,7,8,9],[5,6,7,8,9],[0,1,2,3,4,7],[0,1,2,3,4,7],[0,1,2,3,4,5,6],[0,1,2,3,4],[0,1,2,3,4],[]]
 |17=>[[1,2,3,4,5,6,7,9],[0,3,6,7,9],[0,3,6,7,9],[0,1,2,6,7,9],[0,6,7,9],[0,6,7,9],[0,1,2,3,4,5,9],[0,1,2,3,4,5,9],[9],[0,1,2,3,4,5,6,7,8],[]]
 |_=>[]
@[simp] def OV:ay:=⟨[],false,[250,300,350,500,650],[],false⟩
@[simp] def KA:Nat→List Nat
 |0=>[]
 |_=>[]
@[simp] def OW:ay:=⟨[1,2,3,4,5,6,7,8],false,[],[],false⟩
@[simp] def KB:Nat→List Nat
 |0=>[0,3]
 |1=>[0,3,4,5]
 |2=>[0,3,4,5,22]
 |3=>[0,4]
 |4=>[]
 |5=>[0,3,4,5]
 |6=>[0,4,5]
 |7=>[]
 |_=>[]
@[simp] def Xb:Nat→List (List Nat)
 |1=>[[4,5,6,12],[4,5,6,12],[4,5,6,12],[4,5,6,12],[0,1,2,3,12],[0,1,2,3,12],[0,1,2,3,12],[12],[12],[10,11,12],[9,11,12,13],[9,10,12,13,14],[0,1,2,3,4,5,6,7,8,9,10,11],[10,11],[11],[]]
 |_=>[]
@[simp] def OX:ay:=⟨[1,2,3,4,5,6,7,8],false,[250,350],[],false⟩
@[simp] def KC:Nat→List Nat
 |0=>[0,1,2,3,8]
 |1=>[0,1,2,3,8,12,13,14]
 |2=>[0,1,2,3,8,12,13,14,15]
 |3=>[0,1,2,3,8,9,10,12,13,14]
 |4=>[0,1,2,3,8,9,10,11,12,13,14]
 |5=>[0,1,2,3,8,9,10,11,12,13,14,21]
 |6=>[0,1,2,3,8,9,10,12,13,14]
 |7=>[0,1,2,3,8,9,10,11,12,13,14]
 |8=>[0,1,2,3,8,9,11,12,13,14]
 |9=>[0,1,2,3,8,11,12,13,14,34]
 |10=>[0,1,2,3,8,11,12,13,14]
 |11=>[0,1,2,3,8,11,12,13,14,41]
 |12=>[0,1,2,3,8,12,13,14]
 |13=>[0,1,2,3,8,12,13,14]
 |14=>[]
 |_=>[]
@[simp] def OY:ay:=⟨[1,2,3,4,5,6,7,8],false,[500],[],false⟩
@[simp] def KD:Nat→List Nat
 |0=>[]
 |_=>[]
@[simp] def Xc:Nat→List (List Nat)
 |0=>[[1,2,3,4,5],[0,3],[0,3],[0,1,2],[0],[0],[]]
 |_=>[]
@[simp] def OZ:ay:=⟨[1,2,3,4,5,6,7,8],false,[],[],false⟩
@[simp] def KI:Nat→List Nat
 |0=>[0,3]
 |1=>[0,3,20]
 |2=>[0,3,20,21]
 |3=>[0,3,20,21]
 |4=>[3]
 |5=>[4]
 |6=>[0,3,20,32]
 |7=>[0,5,6]
 |8=>[6]
 |9=>[4]
 |10=>[0,3,20,53]
 |11=>[0,3,8,9]
 |12=>[0,8,9]
 |13=>[0,8,9,11]
 |14=>[0,8,9,11,74]
 |15=>[0,8,9,11]
 |16=>[9]
 |17=>[4]
 |18=>[0,3,87]
 |19=>[0,12,13]
 |20=>[13]
 |21=>[4]
 |22=>[0,3,15]
 |23=>[0,3,15,111,112,113]
 |24=>[0,3,15,111,112,113,114]
 |25=>[0,3,17,111,112,113]
 |26=>[0,3,15,111,112,113]
 |27=>[0,3,15,111,112,113]
 |28=>[0,3,15,18]
 |29=>[0,3,18,124]
 |30=>[0,3,18]
 |31=>[3]
 |32=>[4]
 |_=>[]
@[simp] def Xd:Nat→List (List Nat)
 |7=>[[4,5,11],[4,5,11],[4,5,11],[4,5,11],[0,1,2,3,11],[0,1,2,3,11],[11],[11],[9,10,11],[8,10,11,12],[8,9,11,12,13],[0,1,2,3,4,5,6,7,8,9,10],[9,10],[10],[]]
 |11=>[[4,5,11],[4,5,11],[4,5,11],[4,5,11],[0,1,2,3,11],[0,1,2,3,11],[11],[11],[9,10,11],[8,10,11,12],[8,9,11,12,13],[0,1,2,3,4,5,6,7,8,9,10],[9,10],[10],[]]
 |19=>[[4,5,6,7,13],[4,5,6,7,13],[4,5,6,7,13],[4,5,6,7,13],[0,1,2,3,6,7,13],[0,1,2,3,6,7,13],[0,1,2,3,4,5,13],[0,1,2,3,4,5,13],[13],[13],[11,12,13],[10,12,13,14],[10,11,13,14,15],[0,1,2,3,4,5,6,7,8,9,10,11,12],[11,12],[12],[]]
 |_=>[]
@[simp] def O0:ay:=⟨[1,2,3,4,5,6,7,8],false,[250,400,550,750,950,1000],[],false⟩
@[simp] def KJ:Nat→List Nat
 |0=>[2,3]
 |1=>[2,3,4]
 |2=>[2,3,4]
 |3=>[2,3,4]
 |4=>[]
 |_=>[]
@[simp] def O1:ay:=⟨[1,2,3,4,5,6,7,8],false,[200,250,300],[],false⟩
@[simp] def KK:Nat→List Nat
 |0=>[2,3]
 |1=>[2,3,4]
 |2=>[2,3,4,5]
 |3=>[2,3,4,5,24,25,26]
 |4=>[2,3,4,5,24,25,26,27]
 |5=>[2,3,4,5,9,24,25,26]
 |6=>[2,3,4,5,24,25,26]
 |7=>[2,3,4,5,24,25,26]
 |8=>[2,3,4,5]
 |9=>[2,3,4,5]
 |10=>[2,3,4,5]
 |11=>[]
 |_=>[]
@[simp] def Xe:Nat→List (List Nat)
 |2=>[[4,5,11,12],[4,5,11,12],[4,5,11,12],[4,5,11,12],[0,1,2,3,11,12],[0,1,2,3,11,12],[11,12],[11,12],[9,10,11,12],[8,10,11,12,13],[8,9,11,12,13,14],[0,1,2,3,4,5,6,7,8,9,10,12],[0,1,2,3,4,5,6,7,8,9,10,11],[9,10],[10],[]]
 |_=>[]
@[simp] def O2:ay:=⟨[1,2,3,4,5,6,7,8],false,[200,250,300,350,400,550],[],false⟩
@[simp] def KL:Nat→List Nat
 |0=>[2,3]
 |1=>[]
 |_=>[]
@[simp] def O3:ay:=⟨[1,2,3,4,5,6,7,8],false,[200,250],[],false⟩
@[simp] def KM:Nat→List Nat
 |0=>[0,1]
 |1=>[4]
 |_=>[]
@[simp] def O4:ay:=⟨[1,2,3,4,5,6,7,8],false,[],[],false⟩
@[simp] def KN:Nat→List Nat
 |0=>[0,3]
 |1=>[0,3,4,5]
 |2=>[0,3,4,5,24,25,26]
 |3=>[0,3,4,5,24,25,26,27]
 |4=>[0,3,4,5,7,8,24,25,26]
 |5=>[0,3,4,5,7,9,24,25,26]
 |6=>[0,3,4,5,9,24,25,26]
 |7=>[0,3,4,5,24,25,26]
 |8=>[0,3,4,5,24,25,26]
 |9=>[]
 |_=>[]
@[simp] def Xf:Nat→List (List Nat)
 |1=>[[4,5,11],[4,5,11],[4,5,11],[4,5,11],[0,1,2,3,11],[0,1,2,3,11],[11],[11],[9,10,11],[8,10,11,12],[8,9,11,12,13],[0,1,2,3,4,5,6,7,8,9,10],[9,10],[10],[]]
 |5=>[[4,5,6,12],[4,5,6,12],[4,5,6,12],[4,5,6,12],[0,1,2,3,6,12],[0,1,2,3,6,12],[0,1,2,3,4,5,12],[12],[12],[10,11,12],[9,11,12,13],[9,10,12,13,14],[0,1,2,3,4,5,6,7,8,9,10,11],[10,11],[11],[]]
 |_=>[]
@[simp] def O5:ay:=⟨[1,2,3,4,5,6,7,8],false,[250,350,600],[],false⟩
@[simp] def KO:Nat→List Nat
 |0=>[0]
 |1=>[2]
 |_=>[]
@[simp] def O6:ay:=⟨[1,2,3,4,5,6,7,8],false,[],[],false⟩
@[simp] def KP:Nat→List Nat
 |0=>[0,1,2]
 |1=>[0,1,2,11,12,13]
 |2=>[0,1,2,11,12,13,14]
 |3=>[0,1,2,10,11,12,13]
 |4=>[0,1,2,11,12,13,25]
 |5=>[6,7,8]
 |6=>[0,1,2,11,12,13]
 |7=>[0,1,2,27]
 |8=>[6,7,8]
 |9=>[0,1,2,40]
 |10=>[6,7,8]
 |11=>[0,1,44]
 |12=>[6,7,8]
 |13=>[0,1,57]
 |14=>[6,7,8]
 |15=>[0,1,75]
 |16=>[6,7,8]
 |17=>[6,7,8]
 |_=>[]
@[simp] def Xg:Nat→List (List Nat)
 |12=>[[1,2,3,4,5,6],[0,4,5,6],[0,4,5,6],[0,4,5,6],[0,1,2,3],[0,1,2,3],[0,1,2,3],[],[9,10],[8,10],[8,9],[],[],[]]
 |14=>[[1,2,3,4,5,6],[0,4,5,6],[0,4,5,6],[0,4,5,6],[0,1,2,3],[0,1,2,3],[0,1,2,3],[],[9,10],[8,10],[8,9],[],[],[]]
 |16=>[[1,2,3,4,5,6],[0,4,5,6],[0,4,5,6],[0,4,5,6],[0,1,2,3],[0,1,2,3],[0,1,2,3],[],[9,10],[8,10],[8,9],[],[],[]]
 |_=>[]
@[simp] def O7:ay:=⟨[],false,[],[],false⟩
@[simp] def KQ:Nat→List Nat
 |0=>[]
 |1=>[0]
 |_=>[]
@[simp] def Xh:ay:=⟨[],false,[],[],false⟩
@[simp] def KR:Nat→List Nat
 |0=>[0,1]
 |1=>[0,1,7,8]
 |2=>[0,1,7,8,9]
 |3=>[0,1,5,7,8]
 |4=>[0,1,5,7,8,16]
 |5=>[4]
 |6=>[0,1,7,8]
 |7=>[4]
 |_=>[]
@[simp] def O8:ay:=⟨[],false,[],[],false⟩
@[simp] def KU:Nat→List Nat
 |0=>[1,2]
 |1=>[3]
 |_=>[]
@[simp] def O9:ay:=⟨[],false,[200],[],false⟩
@[simp] def KV:Nat→List Nat
 |0=>[0]
 |1=>[0,3]
 |2=>[0,3,4]
 |3=>[0,3,4,5]
 |4=>[0,3,4,5,6]
 |5=>[0,3,4,5,6,16]
 |6=>[0,3,4,5,6]
 |7=>[0,3,4,5,6,7]
 |8=>[0,3,4,5,6,7]
 |9=>[0,3,4,5,6,8]
 |10=>[0,3,5,6,8]
 |11=>[0,3,4,5,6]
 |12=>[0,3,37]
 |13=>[2]
 |14=>[0,9]
 |15=>[0,9,10]
 |16=>[0,9,10]
 |17=>[0,9,10,12]
 |18=>[0,9,10,12,53]
 |19=>[0,9,10,12]
 |20=>[0,9,10,11,12]
 |21=>[0,9,10,11,12,60]
 |22=>[0,9,10,11,12,66]
 |23=>[0,9,10,11,12]
 |24=>[0,9,10,12]
 |25=>[0,9,10,12]
 |26=>[0,9,10,12]
 |27=>[0,9,10,12,91]
 |28=>[0,9,10,12]
 |29=>[0,9,10,11,12]
 |30=>[0,9,10,11,98]
 |31=>[9]
 |32=>[2]
 |_=>[]
@[simp] def Xi:Nat→Bool
 |18=>true
 |27=>true
 |_=>false
@[simp] def Xj:ay:=⟨[],false,[2150],[],false⟩
@[simp] def KW:Nat→List Nat
 |0=>[0,1]
 |1=>[4,5]
 |_=>[]
@[simp] def Xk:ay:=⟨[],false,[],[],false⟩
@[simp] def KX:Nat→List Nat
 |0=>[0]
 |1=>[0,3]
 |2=>[2]
 |3=>[0,3,8]
 |4=>[2]
 |5=>[0,3,11]
 |6=>[0]
 |7=>[0,3,27]
 |8=>[0,3,4]
 |9=>[0,3,4,33]
 |10=>[0,4]
 |11=>[0]
 |12=>[0,3,39]
 |13=>[0,5]
 |14=>[0,5,46]
 |15=>[2]
 |16=>[0]
 |_=>[]
@[simp] def Xl:Nat→Bool
 |5=>true
 |_=>false
@[simp] def Pa:ay:=⟨[],false,[],[],false⟩
@[simp] def KY:Nat→List Nat
 |0=>[0]
 |1=>[2]
 |_=>[]
@[simp] def Xm:Nat→List (List Nat)
 |1=>[[4,5,6,7],[4,5,6,7],[4,5,6,7],[4,5,6,7],[0,1,2,3],[0,1,2,3],[0,1,2,3],[0,1,2,3],[],[]]
 |_=>[]
@[simp] def Pb:ay:=⟨[],false,[],[],false⟩
@[simp] def KZ:Nat→List Nat
 |0=>[0,3,4]
 |1=>[0,3,4]
 |2=>[0,3,4,6]
 |3=>[0,3,4,6,13]
 |4=>[4,5]
 |5=>[0,3,4,6]
 |6=>[0,3,4,16]
 |7=>[0,3,4,6]
 |8=>[0,3,4,6]
 |9=>[0,3,4,6,26]
 |10=>[0,3,4,6]
 |11=>[0,3,4,6,29]
 |12=>[4,5]
 |13=>[0,3,4,31]
 |14=>[0,3,4,7,8,9]
 |15=>[0,3,4,7,8,9,42]
 |16=>[4,5]
 |17=>[0,3,4,6,8]
 |18=>[0,3,4,6]
 |19=>[3,4]
 |20=>[4,5]
 |_=>[]
@[simp] def Pc:ay:=⟨[],false,[250,300],[],false⟩
@[simp] def K0:Nat→List Nat
 |0=>[0,4,5]
 |1=>[0,4,5,6]
 |2=>[0,4,5]
 |3=>[0,4,5,23]
 |4=>[0,4,5]
 |5=>[0,4,5]
 |6=>[0,4,5]
 |7=>[0,4,5]
 |_=>[]
@[simp] def Xn:Nat→List (List Nat)
 |3=>[[4,5,6,7],[4,5,6,7],[4,5,6,7],[4,5,6,7],[0,1,2,3],[0,1,2,3],[0,1,2,3],[0,1,2,3],[],[]]
 |_=>[]
@[simp] def Pd:ay:=⟨[],false,[],[],false⟩
@[simp] def K1:Nat→List Nat
 |0=>[0,7]
 |1=>[]
 |_=>[]
@[simp] def Xo:ay:=⟨[1],false,[],[],false⟩
@[simp] def K2:Nat→List Nat
 |0=>[0,1,4]
 |1=>[0,4,9]
 |2=>[0,4]
 |3=>[4]
 |_=>[]
@[simp] def Xp:ay:=⟨[1],false,[300],[],false⟩
@[simp] def K3:Nat→List Nat
 |0=>[0,2]
 |1=>[0,2,3]
 |2=>[0,6]
 |3=>[0,2]
 |4=>[0,9]
 |5=>[0,2]
 |6=>[0,2,14]
 |7=>[0,2]
 |_=>[]
@[simp] def Xq:ay:=⟨[],false,[],[],false⟩
@[simp] def K4:Nat→List Nat
 |0=>[0,1]
 |1=>[0,1,5]
 |2=>[0,1,5,10]
 |3=>[0,1,5]
 |4=>[4]
 |_=>[]
@[simp] def Xr:ay:=⟨[1],false,[350],[],false⟩
@[simp] def K5:Nat→List Nat
 |0=>[1]
 |1=>[1,5]
 |2=>[2,3,4]
 |3=>[1,11]
 |4=>[2,3,4]
 |5=>[1,17]
 |6=>[2,3,4]
 |7=>[2,3,4]
 |_=>[]
@[simp] def Xs:Nat→Bool
 |5=>true
 |_=>false
@[simp] def Pe:ay:=⟨[],false,[150],[],false⟩
@[simp] def K6:Nat→List Nat
 |0=>[0]
 |1=>[3]
 |2=>[2]
 |3=>[2]
 |_=>[]
@[simp] def Pf:ay:=⟨[],false,[],[],false⟩
@[simp] def K7:Nat→List Nat
 |0=>[0,1,2,6]
 |1=>[0,2,6,7]
 |2=>[6]
 |3=>[0,2,6,12]
 |4=>[6]
 |5=>[6]
 |_=>[]
@[simp] def Ph:ay:=⟨[],false,[400],[],false⟩
@[simp] def K8:Nat→List Nat
 |0=>[0,1,4]
 |1=>[1,4,6]
 |2=>[1,4,6,7]
 |3=>[1,4,6,7,13]
 |4=>[1,4,6,7]
 |5=>[1,4,6,7,26]
 |6=>[4,5]
 |7=>[4,5]
 |_=>[]
@[simp] def Xt:Nat→Bool
 |5=>true
 |_=>false
@[simp] def Pj:ay:=⟨[],false,[300],[],false⟩
@[simp] def K9:Nat→List Nat
 |0=>[0,3,4]
 |1=>[3,4,5,6]
 |2=>[3,4,6,19]
 |3=>[4]
 |4=>[4]
 |_=>[]
@[simp] def Pk:ay:=⟨[],false,[250,300,400],[],false⟩
@[simp] def La:Nat→List Nat
 |0=>[1,2,5]
 |1=>[1,2,5,7]
 |2=>[1,5,7,11,12,13]
 |3=>[1,5,7,11,12,13,14]
 |4=>[1,5,7,9,11,12,13]
 |5=>[1,5,7,9,11,12,13,20]
 |6=>[4,5,6]
 |7=>[1,5,7,11,12,13]
 |8=>[1,5,7,11,12,13]
 |9=>[4,5,6]
 |_=>[]
@[simp] def Xu:Nat→List (List Nat)
 |6=>[[1],[0,2],[1],[],[]]
 |_=>[]
@[simp] def Pm:ay:=⟨[],false,[200,350,550],[],false⟩
@[simp] def Lc:Nat→List Nat
 |0=>[]
 |_=>[]
@[simp] def Po:ay:=⟨[1,2,3,4,5,6,7,8],false,[],[],false⟩
@[simp] def Ld:Nat→List Nat
 |0=>[0,1]
 |1=>[4]
 |_=>[]
@[simp] def Pp:ay:=⟨[1,2,3,4,5,6,7,8],false,[],[],false⟩
@[simp] def Lf:Nat→List Nat
 |0=>[0,1,2,6]
 |1=>[0,1,6,8]
 |2=>[0,1,6]
 |3=>[]
 |_=>[]
@[simp] def Pq:ay:=⟨[1,2,3,4,5,6,7,8],false,[],[],false⟩
@[simp] def Lg:Nat→List Nat
 |0=>[1,3,5,7]
 |1=>[5,7,9,10,11]
 |2=>[5,7,9,10,31]
 |3=>[6,7,8]
 |4=>[5,7,9,12]
 |5=>[7,9,12,13]
 |6=>[7,9,12,13,40]
 |7=>[6,7,8]
 |8=>[6,7,8]
 |_=>[]
@[simp] def Xv:Nat→List (List Nat)
 |8=>[[1,3,4,5,6],[0,3,4,5,6],[3,4,5,6],[0,1,2,4,7],[0,1,2,3,7],[0,1,2,7],[0,1,2,7],[3,4,5,6],[],[]]
 |_=>[]
@[simp] def Pr:ay:=⟨[],false,[250,350,450,600],[],false⟩
@[simp] def Lh:Nat→List Nat
 |0=>[0,1]
 |1=>[0,1,5]
 |2=>[5]
 |3=>[4]
 |_=>[]
@[simp] def Ps:ay:=⟨[1,2,3,4,5,6,7,8],false,[],[],false⟩
@[simp] def Li:Nat→List Nat
 |0=>[0,1,2,3]
 |1=>[1,3,5]
 |2=>[1,3,5,6]
 |3=>[1,3,5,6,19]
 |4=>[1,3,5,6]
 |5=>[1,3,5,6]
 |6=>[1,3,5,6]
 |_=>[]
@[simp] def Xw:Nat→List (List Nat)
 |5=>[[1,2,3,4,5,6,7,8,9,10,11],[0,2,3,4,5,6,7,8,9,10],[0,1,3,6,7,8,9,10],[0,1,2,6,7,8,9,10],[0,1,6,7,8,9,10],[0,1,6,7,8,9,10],[0,1,2,3,4,5,7,8],[0,1,2,3,4,5,6],[0,1,2,3,4,5,6],[0,1,2,3,4,5],[0,1,2,3,4,5],[0],[]]
 |_=>[]
@[simp] def Pt:ay:=⟨[1,2,3,4,5,6,7,8],false,[],[],false⟩
@[simp] def Lj:Nat→List Nat
 |0=>[0,1]
 |1=>[0]
 |2=>[0,4]
 |3=>[0,4,5]
 |4=>[0,5]
 |5=>[]
 |_=>[]
@[simp] def Xx:Nat→List Gh
 |2=>[.opn 4 101,.opn 6 101]
 |4=>[.shut 4,.shut 6]
 |_=>[]
@[simp] def Pu:ay:=⟨[1,2,3,4,5,6,7,8],false,[101,650],[],false⟩
@[simp] def Lk:Nat→List Nat
 |0=>[0,1,2,3,4]
 |1=>[0,1,2,3,4]
 |2=>[0,1,2,3,4]
 |3=>[0,1,2,3,4,5]
 |4=>[0,1,2,4,5]
 |5=>[0,1,2,4,5]
 |6=>[0,1,4,5]
 |7=>[0,1,4,5]
 |8=>[0,4,5]
 |9=>[0,5]
 |10=>[]
 |_=>[]
@[simp] def Xy:Nat→List (List Nat)
 |4=>[[1,2,3,4],[0],[0],[0],[0],[]]
 |_=>[]
@[simp] def Pv:ay:=⟨[1,2,3,4,5,6,7,8],false,[],[],false⟩
@[simp] def Ll:Nat→List Nat
 |0=>[0,1,2]
 |1=>[0,1,2,8]
 |2=>[0,1,2]
 |3=>[0,1,2]
 |4=>[0,2]
 |5=>[]
 |6=>[0,1,2]
 |7=>[0,1,2]
 |8=>[0,1,2,3]
 |9=>[0,2,3]
 |10=>[0,3]
 |11=>[]
 |_=>[]
@[simp] def Xz:Nat→List (List Nat)
 |2=>[[1,2,3,4],[0],[0],[0],[0],[]]
 |9=>[[1,2,3,4],[0],[0],[0],[0],[]]
 |_=>[]
@[simp] def Pw:ay:=⟨[1,2,3,4,5,6,7,8],false,[],[],false⟩
@[simp] def Lm:Nat→List Nat
 |0=>[0,1,2]
 |1=>[0,1,2,11]
 |2=>[9,10]
 |3=>[9,24]
 |4=>[6,7,8]
 |5=>[6,7,8]
 |6=>[1,26]
 |7=>[6,7,8]
 |8=>[6,7,8]
 |_=>[]
@[simp] def Px:ay:=⟨[],false,[],[],false⟩
@[simp] def Ln:Nat→List Nat
 |0=>[0,1,2]
 |1=>[1,2,9]
 |2=>[1,2,9,10]
 |3=>[6,7,8]
 |4=>[1,2,9,16]
 |5=>[1,2,9,16]
 |6=>[6,7,8]
 |7=>[1,2,9,23]
 |8=>[6,7,8]
 |9=>[1,2,28]
 |10=>[6,7,8]
 |11=>[6,7,8]
 |_=>[]
@[simp] def Py:ay:=⟨[],false,[],[],false⟩
@[simp] def Lo:Nat→List Nat
 |0=>[0,1,2]
 |1=>[0,1,2,9]
 |2=>[0,1,2,9,10]
 |3=>[0,1,2,9,10,11]
 |4=>[1,2,9,10,11,12]
 |5=>[1,2,9,10,11,12,13]
 |6=>[9,10,11]
 |7=>[1,2,9,10,11,12,21]
 |8=>[9,10,11]
 |9=>[1,2,9,10,11,12,29]
 |10=>[9,10,11]
 |11=>[1,2,9,10,11,12,37]
 |12=>[9,10,11]
 |13=>[1,2,9,10,11,45]
 |14=>[9,10,11]
 |15=>[9,10,11,53]
 |16=>[6,7,8]
 |17=>[9,56]
 |18=>[6,7,8]
 |19=>[6,7,8]
 |_=>[]
@[simp] def Pz:ay:=⟨[],false,[],[],false⟩
@[simp] def Lp:Nat→List Nat
 |0=>[0,1,2]
 |1=>[0,1,2,9]
 |2=>[1,2,9,10]
 |3=>[1,2,9,10,11]
 |4=>[9]
 |5=>[1,2,9,10,16]
 |6=>[9]
 |7=>[1,2,9,10,21]
 |8=>[9]
 |9=>[1,2,9,10,26]
 |10=>[9]
 |11=>[1,2,9,10,31]
 |12=>[9]
 |13=>[1,2,9,36]
 |14=>[9]
 |15=>[6,7,8]
 |_=>[]
@[simp] def PA:ay:=⟨[],false,[],[],false⟩
@[simp] def Lq:Nat→List Nat
 |0=>[0,1]
 |1=>[0,1,5]
 |2=>[0,1,5,6]
 |3=>[0,1,5,6,14]
 |4=>[0,1,5,6,14,15,16]
 |5=>[0,1,5,6,7,8,14]
 |6=>[0,1,5,6,7,14,21]
 |7=>[0,1,5,6,7,14,23]
 |8=>[0,1,5,6,14]
 |9=>[0,1,5,6,14]
 |10=>[0,1,5,6,7,14,33]
 |11=>[0,1,5,6,14]
 |12=>[0,5,6,36]
 |13=>[0,5]
 |14=>[0,5,9]
 |15=>[0,9,47,48,49]
 |16=>[0,9,47,48,49,50]
 |17=>[0,9,10,11,47,48,49]
 |18=>[0,9,47,48,49]
 |19=>[0,9,47,48,49]
 |20=>[4]
 |_=>[]
@[simp] def XA:ay:=⟨[],false,[650,700,2400],[],false⟩
@[simp] def Lr:Nat→List Nat
 |0=>[0]
 |1=>[0,5]
 |2=>[6]
 |3=>[6,7]
 |4=>[6,7]
 |5=>[6,7]
 |6=>[6,7]
 |7=>[6,7]
 |8=>[6,7]
 |9=>[6,7]
 |10=>[7]
 |11=>[2]
 |12=>[2]
 |13=>[2]
 |_=>[]
@[simp] def XB:ay:=⟨[],false,[],[],false⟩
@[simp] def Ls:Nat→List Nat
 |0=>[0,1]
 |1=>[0,1,9]
 |2=>[4,5]
 |3=>[4,5]
 |_=>[]
@[simp] def XF:ay:=⟨[],false,[],[],false⟩
@[simp] def Lt:Nat→List Nat
 |0=>[0,1]
 |1=>[4]
 |_=>[]
@[simp] def XG:ay:=⟨[],false,[],[],false⟩
@[simp] def Lu:Nat→List Nat
 |0=>[0,1]
 |1=>[4]
 |_=>[]
@[simp] def PB:ay:=⟨[],false,[],[],false⟩
@[simp] def Lv:Nat→List Nat
 |0=>[0,1]
 |1=>[4]
 |_=>[]
@[simp] def XH:ay:=⟨[],false,[],[],false⟩
@[simp] def Lw:Nat→List Nat
 |0=>[0]
 |1=>[2]
 |_=>[]
@[simp] def XI:Nat→Bool
 |1=>true
 |_=>false
@[simp] def PC:ay:=⟨[],false,[],[],false⟩
@[simp] def LA:Nat→List Nat
 |0=>[0,1]
 |1=>[0,1,5]
 |2=>[0,1,5,16]
 |3=>[0,1,5]
 |4=>[4]
 |_=>[]
@[simp] def XJ:Nat→Bool
 |2=>true
 |_=>false
@[simp] def PD:ay:=⟨[],false,[],[],false⟩
@[simp] def LB:Nat→List Nat
 |0=>[0]
 |1=>[2]
 |_=>[]
@[simp] def XK:Nat→Bool
 |1=>true
 |_=>false
@[simp] def PE:ay:=⟨[],false,[],[],false⟩
@[simp] def LC:Nat→List Nat
 |0=>[0]
 |1=>[2]
 |_=>[]
@[simp] def PF:ay:=⟨[],false,[],[],false⟩
@[simp] def LD:Nat→List Nat
 |0=>[0]
 |1=>[2]
 |_=>[]
@[simp] def PG:ay:=⟨[],false,[],[],false⟩
@[simp] def LF:Nat→List Nat
 |0=>[0]
 |1=>[0,5,6]
 |2=>[0,5,6,16,17,18]
 |3=>[0,5,6,16,17,18,19]
 |4=>[0,5,6,8,16,17,18]
 |5=>[0,5,6,8,16,17,18,25]
 |6=>[0,5,6,16,17,18]
 |7=>[0,5,6,16,17,18]
 |8=>[0,5,6,9]
 |9=>[0,5,6,9,59]
 |10=>[2,3,4]
 |11=>[0,5,6,9,10]
 |12=>[0,5,9,10,11]
 |13=>[0,5,9,10,11,63]
 |14=>[0,5,9,10,11]
 |15=>[0,5,9,10,11,12]
 |16=>[0,5,9,10,11,12,75]
 |17=>[2,3,4]
 |18=>[0,5,9,10,11]
 |19=>[2,3,4]
 |_=>[]
@[simp] def XL:Nat→Bool
 |9=>true
 |_=>false
@[simp] def XM:Nat→List (List Nat)
 |6=>[[2,3,4],[2,3,4],[0,1,5],[0,1,5],[0,1,5],[2,3,4],[]]
 |_=>[]
@[simp] def PH:ay:=⟨[],false,[350,500],[],false⟩
@[simp] def LG:Nat→List Nat
 |0=>[0]
 |1=>[0,5,6,7]
 |2=>[0,5,6,7,8]
 |3=>[0,4,5,6,7]
 |4=>[0,5,6,7,13]
 |5=>[2]
 |6=>[0,5,6,7]
 |7=>[18]
 |8=>[2]
 |9=>[2]
 |_=>[]
@[simp] def PI:ay:=⟨[],false,[],[],false⟩
@[simp] def LH:Nat→List Nat
 |0=>[0,1]
 |1=>[0,8]
 |2=>[4]
 |3=>[]
 |4=>[4]
 |_=>[]
@[simp] def XN:ay:=⟨[1],false,[],[],false⟩
@[simp] def LJ:Nat→List Nat
 |0=>[0,3]
 |1=>[]
 |_=>[]
@[simp] def XO:ay:=⟨[],false,[250],[],false⟩
@[simp] def LK:Nat→List Nat
 |0=>[0,2]
 |1=>[2]
 |_=>[]
@[simp] def XP:Nat→List (List Nat)
 |1=>[[4,5,6,7],[4,5,6,7],[4,5,6,7],[4,5,6,7],[0,1,2,3],[0,1,2,3],[0,1,2,3],[0,1,2,3],[],[],[]]
 |_=>[]
@[simp] def XQ:ay:=⟨[1],false,[200],[],false⟩
@[simp] def LL:Nat→List Nat
 |0=>[0,2]
 |1=>[0,2,3]
 |2=>[0,2,3,8]
 |3=>[2,3]
 |4=>[2]
 |_=>[]
@[simp] def XR:ay:=⟨[1],false,[200,250],[],false⟩
@[simp] def LM:Nat→List Nat
 |0=>[0,1,4]
 |1=>[0,1,4,5]
 |2=>[0,1,4,5]
 |3=>[0,1,4,5,26]
 |4=>[0,1,4]
 |5=>[0,1,4,31]
 |6=>[0,1,4]
 |7=>[0,1,4,6]
 |8=>[0,1,4,6,7]
 |9=>[0,1,4,6,7,37]
 |10=>[0,1,4,6,8,9]
 |11=>[0,1,4,6,8,56]
 |12=>[0,1,4,6,8]
 |13=>[0,1,4,6,7]
 |14=>[0,1,4,6,7]
 |15=>[0,1,6,7,63,64,65]
 |16=>[0,1,6,7,63,64,65,66]
 |17=>[0,1,6,7,11,63,64,65]
 |18=>[0,1,6,7,63,64,65]
 |19=>[0,1,6,7,63,64,65]
 |_=>[]
@[simp] def XS:Nat→List (List Nat)
 |18=>[[1,2,3,4,5,6,7,8,9,10,11,12,13,14,15,16,17,18,19,20,21],[0,5,6,7,8,9,10,11,12,13,14,15,16,17,18,19,20],[0,5,6,7,8,9,10,11,12,13,14,15,16,17,18,19,20],[0,5,6,7,8,9,10,11,12,13,14,15,16,17,18,19,20],[0,5,6,7,8,9,10,11,12,13,14,15,16,17,18,19,20],[0,1,2,3,4,7,8,9,10,11,12,13,14,15,16,17,18],[0,1,2,3,4,7,8,9,10,11,12,13,14,15,16,17,18],[0,1,2,3,4,5,6,9,10,11,12,13,14,15,16,17,18],[0,1,2,3,4,5,6,9,10,11,12,13,14,15,16,17,18],[0,1,2,3,4,5,6,7,8,10,11,12,13,14,15,16,17,18],[0,1,2,3,4,5,6,7,8,9,12,13,14,15,16,17,18],[0,1,2,3,4,5,6,7,8,9,12,13,14,15,16,17,18],[0,1,2,3,4,5,6,7,8,9,10,11,14,15,16,17,18],[0,1,2,3,4,5,6,7,8,9,10,11,14,15,16,17,18],[0,1,2,3,4,5,6,7,8,9,10,11,12,13,16,17,18],[0,1,2,3,4,5,6,7,8,9,10,11,12,13,16,17,18],[0,1,2,3,4,5,6,7,8,9,10,11,12,13,14,15,17,18],[0,1,2,3,4,5,6,7,8,9,10,11,12,13,14,15,16],[0,1,2,3,4,5,6,7,8,9,10,11,12,13,14,15,16],[0,1,2,3,4],[0,1,2,3,4],[0],[],[],[]]
 |_=>[]
@[simp] def XT:ay:=⟨[],false,[300,350,400,650],[],false⟩
@[simp] def LN:Nat→List Nat
 |0=>[0,1]
 |1=>[4]
 |_=>[]
@[simp] def XU:ay:=⟨[1],false,[],[],false⟩
@[simp] def LO:Nat→List Nat
 |0=>[0,1]
 |1=>[1,5]
 |2=>[4]
 |_=>[]
@[simp] def XV:ay:=⟨[1],false,[350],[],false⟩
@[simp] def LP:Nat→List Nat
 |0=>[0,2]
 |1=>[0,2,3]
 |2=>[0,2,3]
 |3=>[0,2,3,4]
 |4=>[0,2,3,4]
 |5=>[2,3,4]
 |6=>[2,4]
 |7=>[2]
 |_=>[]
@[simp] def XW:ay:=⟨[1],false,[200,250,300],[],false⟩
@[simp] def LQ:Nat→List Nat
 |0=>[0,1]
 |1=>[0,1,7,8]
 |2=>[0,1,7,8,9]
 |3=>[0,1,5,7,8]
 |4=>[0,1,5,7,8,16]
 |5=>[4]
 |6=>[0,1,7,8]
 |7=>[4]
 |_=>[]
@[simp] def PJ:ay:=⟨[],false,[],[],false⟩
@[simp] def LR:Nat→List Nat
 |0=>[1,2]
 |1=>[3]
 |_=>[]
@[simp] def PK:ay:=⟨[],false,[200],[],false⟩
@[simp] def LS:Nat→List Nat
 |0=>[0,1]
 |1=>[0,1,6]
 |2=>[6,21]
 |3=>[4,5]
 |4=>[4,5]
 |_=>[]
@[simp] def PL:ay:=⟨[],false,[],[],false⟩
@[simp] def LU:Nat→List Nat
 |0=>[0,1]
 |1=>[0,1,6]
 |2=>[6,21]
 |3=>[4,5]
 |4=>[4,5]
 |_=>[]
@[simp] def PN:ay:=⟨[],false,[],[],false⟩
@[simp] def LV:Nat→List Nat
 |0=>[0,1]
 |1=>[0,1,6,7]
 |2=>[0,1,7,17]
 |3=>[4,5]
 |4=>[4,5]
 |_=>[]
@[simp] def PO:ay:=⟨[],false,[],[],false⟩
@[simp] def LW:Nat→List Nat
 |0=>[0,1]
 |1=>[0,1,6]
 |2=>[4,5]
 |3=>[0,1,9]
 |4=>[4,5]
 |5=>[4,5]
 |_=>[]
@[simp] def PQ:ay:=⟨[],false,[],[],false⟩
@[simp] def LX:Nat→List Nat
 |0=>[0,1]
 |1=>[0,1,6]
 |2=>[0,1,6,7]
 |3=>[4,5]
 |4=>[0,1,9]
 |5=>[4,5]
 |6=>[4,5]
 |_=>[]
@[simp] def PT:ay:=⟨[],false,[],[],false⟩
@[simp] def LY:Nat→List Nat
 |0=>[0,1]
 |1=>[0,1,5]
 |2=>[0,1,5,6]
 |3=>[0,1,5,6,32]
 |4=>[4]
 |5=>[1,7]
 |6=>[1,7,54]
 |7=>[4]
 |8=>[4]
 |_=>[]
@[simp] def XX:Nat→Bool
 |3=>true
 |6=>true
 |_=>false
@[simp] def XY:ay:=⟨[],false,[],[],false⟩
@[simp] def LZ:Nat→List Nat
 |0=>[0,1]
 |1=>[4]
 |_=>[]
@[simp] def XZ:Nat→Bool
 |1=>true
 |_=>false
@[simp] def X0:ay:=⟨[],false,[],[],false⟩
@[simp] def L3:Nat→List Nat
 |0=>[0,1]
 |1=>[4]
 |_=>[]
@[simp] def X1:Nat→Bool
 |1=>true
 |_=>false
@[simp] def X7:ay:=⟨[],false,[],[],false⟩
@[simp] def L4:Nat→List Nat
 |0=>[0,1]
 |1=>[4]
 |_=>[]
@[simp] def X8:ay:=⟨[],false,[],[],false⟩
@[simp] def L5:Nat→List Nat
 |0=>[0,1]
 |1=>[0,1,5]
 |2=>[0,1,5,16]
 |3=>[4]
 |4=>[0,1,5,24]
 |5=>[4]
 |6=>[0,1,5,31]
 |7=>[4]
 |8=>[0,1,5,36]
 |9=>[4]
 |10=>[0,1,5,6]
 |11=>[0,1,5,6,7]
 |12=>[0,1,5,6,7,8]
 |13=>[0,1,5,6,7,8,9]
 |14=>[0,1,5,6,7,8,9,10]
 |15=>[0,1,5,6,7,8,9,10,59]
 |16=>[0,1,5,6,7,8,9,10,64]
 |17=>[0,1,5,6,7,8,9,10,11]
 |18=>[0,1,5,6,7,8,9,10,11,73]
 |19=>[4]
 |20=>[0,1,5,6,7,8,9,10]
 |21=>[0,1,5,6,7,8,9,10,93]
 |22=>[4]
 |23=>[0,1,5,6,7,8,9,10]
 |24=>[0,1,5,6,7,8,9,10]
 |25=>[0,1,5,6,7,8,9,10,107]
 |26=>[8,12]
 |27=>[8,12,114]
 |28=>[4]
 |29=>[4]
 |30=>[0,1,5,6,7,8,9,10,132]
 |31=>[8,13]
 |32=>[8,13,139]
 |33=>[4]
 |34=>[4]
 |35=>[4]
 |_=>[]
@[simp] def X9:Nat→Bool
 |21=>true
 |25=>true
 |_=>false
@[simp] def Ya:ay:=⟨[],false,[],[],false⟩
@[simp] def L6:Nat→List Nat
 |0=>[0,1]
 |1=>[4]
 |_=>[]
@[simp] def PU:ay:=⟨[],false,[],[],false⟩
@[simp] def L7:Nat→List Nat
 |0=>[0,1]
 |1=>[3]
 |_=>[]
@[simp] def Yb:Nat→List (List Nat)
 |1=>[[2],[2],[0,1],[],[]]
 |_=>[]
@[simp] def PV:ay:=⟨[],false,[],[],false⟩
@[simp] def L8:Nat→List Nat
 |0=>[0]
 |1=>[0,3]
 |2=>[2]
 |3=>[0,9]
 |4=>[2]
 |5=>[2]
 |_=>[]
@[simp] def PW:ay:=⟨[],false,[],[],false⟩
@[simp] def L9:Nat→List Nat
 |0=>[0,2]
 |1=>[0,2,3]
 |2=>[0,2,3,4,5]
 |3=>[0,2,3,4,15]
 |4=>[2,3]
 |5=>[2]
 |6=>[0,2,3,20]
 |7=>[2]
 |8=>[2,3,6]
 |9=>[2,3,6]
 |10=>[2,3,6,32]
 |11=>[2,3]
 |12=>[2]
 |_=>[]
@[simp] def Yc:ay:=⟨[1],false,[200,250,400],[],false⟩
@[simp] def Ma:Nat→List Nat
 |0=>[0]
 |1=>[0,4]
 |2=>[2,3]
 |3=>[0,7]
 |4=>[2,3]
 |5=>[2,3]
 |_=>[]
@[simp] def Yd:ay:=⟨[1],false,[],[],false⟩
@[simp] def Mb:Nat→List Nat
 |0=>[0,1]
 |1=>[0,1,7,8]
 |2=>[0,1,7,8,9]
 |3=>[0,1,5,7,8]
 |4=>[0,1,5,7,8,16]
 |5=>[4]
 |6=>[0,1,7,8]
 |7=>[4]
 |_=>[]
@[simp] def Ye:ay:=⟨[1],false,[],[],false⟩
@[simp] def Md:Nat→List Nat
 |0=>[0]
 |1=>[0,13]
 |2=>[]
 |_=>[]
@[simp] def Yf:ay:=⟨[1],false,[],[],false⟩
@[simp] def Me:Nat→List Nat
 |0=>[0,2]
 |1=>[0,2,7]
 |2=>[2]
 |3=>[0,2,12]
 |4=>[2]
 |5=>[0,2,17]
 |6=>[2]
 |7=>[0,2,22]
 |8=>[0,2,3]
 |9=>[0,2,3]
 |10=>[0,2,3]
 |11=>[2,3]
 |12=>[2]
 |13=>[0,2,38]
 |14=>[0,2,4]
 |15=>[0,2,4]
 |16=>[0,2,4]
 |17=>[2,4]
 |18=>[2]
 |19=>[0,2,54]
 |20=>[2]
 |21=>[0,2,58]
 |22=>[2]
 |23=>[0,2,5]
 |24=>[0,2,5,65]
 |25=>[2]
 |26=>[0,2,5,6]
 |27=>[0,2,5,6,76]
 |28=>[0,2,6]
 |29=>[0,2,6]
 |30=>[2]
 |_=>[]
@[simp] def Yg:Nat→List (List Nat)
 |28=>[[2,3,4,5,6],[2,3,4,5,6],[0,1,5,6],[0,1,5,6],[0,1,5,6],[0,1,2,3,4],[0,1,2,3,4],[],[]]
 |30=>[[1,2],[0],[0],[],[]]
 |_=>[]
@[simp] def Yh:ay:=⟨[1],false,[200,250,300,350,400],[],false⟩
@[simp] def Mf:Nat→List Nat
 |0=>[]
 |_=>[]
@[simp] def Yi:ay:=⟨[1],false,[],[],false⟩
@[simp] def Mg:Nat→List Nat
 |0=>[0,1]
 |1=>[0,1,6]
 |2=>[0,1,6,7]
 |3=>[0,1,6,7,8]
 |4=>[0,1,6,7,8,9]
 |5=>[0,1,6,7,8,9,10]
 |6=>[0,1,6,7,9,11]
 |7=>[0,1,6,7,9,11,12]
 |8=>[0,1,6,7,9,12,13]
 |9=>[0,1,7,9,12,13]
 |10=>[0,1,4]
 |11=>[4,5]
 |_=>[]
@[simp] def PX:ay:=⟨[],false,[],[],false⟩
@[simp] def Mh:Nat→List Nat
 |0=>[0]
 |1=>[0,4]
 |2=>[2]
 |3=>[2]
 |_=>[]
@[simp] def PY:ay:=⟨[],false,[],[],false⟩
@[simp] def Mi:Nat→List Nat
 |0=>[0,1]
 |1=>[0,1,6]
 |2=>[4,5]
 |3=>[0,15]
 |4=>[4,5]
 |5=>[4,5]
 |_=>[]
@[simp] def PZ:ay:=⟨[],false,[],[],false⟩
@[simp] def Mj:Nat→List Nat
 |0=>[0,1]
 |1=>[0,1,17]
 |2=>[0,1,19,20]
 |3=>[0,1,19,20,21]
 |4=>[0,1,5,19,20]
 |5=>[0,1,6,19,20]
 |6=>[0,1,6,19,20,31]
 |7=>[4]
 |8=>[0,1,6,19,20,37]
 |9=>[4]
 |10=>[0,1,19,20]
 |11=>[4]
 |12=>[0,1,7]
 |13=>[0,1,7,8]
 |14=>[0,1,7,8,62]
 |15=>[0,1,7,8,9]
 |16=>[0,1,7,8,9,10]
 |17=>[0,1,7,8,9,10,85]
 |18=>[4]
 |19=>[0,1,7,8,9,110]
 |20=>[0,1,7,8]
 |21=>[0,1,7,8]
 |22=>[4]
 |_=>[]
@[simp] def Yj:Nat→List (List Nat)
 |9=>[[],[],[],[],[],[],[7,8,9,10,12,13,14,15],[6,12,13,14,15],[6,12,13,14,15],[6,12,13,14,15],[6,12,13,14,15],[12,13,14,15],[6,7,8,9,10,11],[6,7,8,9,10,11],[6,7,8,9,10,11],[6,7,8,9,10,11],[],[],[],[]]
 |18=>[[],[],[],[],[],[],[7,8,9,10,12,13,14,15],[6,12,13,14,15],[6,12,13,14,15],[6,12,13,14,15],[6,12,13,14,15],[12,13,14,15],[6,7,8,9,10,11],[6,7,8,9,10,11],[6,7,8,9,10,11],[6,7,8,9,10,11],[],[],[],[]]
 |_=>[]
@[simp] def Yk:ay:=⟨[],false,[],[],false⟩
@[simp] def Ml:Nat→List Nat
 |0=>[0,1]
 |1=>[0,1,13]
 |2=>[0,1,15,16]
 |3=>[0,1,15,16,17]
 |4=>[0,1,5,15,16]
 |5=>[0,1,6,15,16]
 |6=>[0,1,6,15,16,27]
 |7=>[4]
 |8=>[0,1,6,15,16,33]
 |9=>[4]
 |10=>[0,1,15,16]
 |11=>[4]
 |12=>[0,1,7]
 |13=>[0,1,7,8]
 |14=>[0,1,7,8,58]
 |15=>[0,1,7,8,9]
 |16=>[0,1,7,8,9,10]
 |17=>[0,1,7,8,9,10,78]
 |18=>[4]
 |19=>[0,1,7,8,9,95]
 |20=>[0,1,7,8]
 |21=>[0,1,7,8]
 |22=>[4]
 |_=>[]
@[simp] def Yl:Nat→List (List Nat)
 |9=>[[],[],[],[],[],[],[7,8,9,10,12,13,14,15],[6,12,13,14,15],[6,12,13,14,15],[6,12,13,14,15],[6,12,13,14,15],[12,13,14,15],[6,7,8,9,10,11],[6,7,8,9,10,11],[6,7,8,9,10,11],[6,7,8,9,10,11],[],[],[],[]]
 |_=>[]
@[simp] def Ym:ay:=⟨[],false,[600],[],false⟩
@[simp] def Mm:Nat→List Nat
 |0=>[0]
 |1=>[2]
 |_=>[]
@[simp] def Yn:ay:=⟨[],false,[],[],false⟩
@[simp] def Mn:Nat→List Nat
 |0=>[0,1]
 |1=>[0,1,5,6]
 |2=>[0,1,5,6,7]
 |3=>[0,1,5,6,7,8]
 |4=>[0,1,5,6,7,8,9]
 |5=>[0,1,5,6,7,8,9,20]
 |6=>[0,1,5,6,7,8,9]
 |7=>[0,1,5,6,7,8,9]
 |8=>[0,1,5,6,7,8,39]
 |9=>[4]
 |10=>[0,1,5,6,7,8,10]
 |11=>[0,1,5,6,7,8,10,44]
 |12=>[0,1,5,6,7,8,10]
 |13=>[0,1,5,6,7,8,10]
 |14=>[0,1,5,6,7,8,10]
 |15=>[0,1,5,6,7,8,10]
 |16=>[0,1,5,6,7,8,10,77]
 |17=>[4]
 |18=>[4]
 |_=>[]
@[simp] def Yo:Nat→Bool
 |8=>true
 |16=>true
 |_=>false
@[simp] def Yp:ay:=⟨[],false,[],[],false⟩
@[simp] def Mo:Nat→List Nat
 |0=>[0,1]
 |1=>[0,1,7,8]
 |2=>[0,1,7,8,9]
 |3=>[0,1,5,7,8]
 |4=>[0,1,5,7,8,16]
 |5=>[4]
 |6=>[0,1,7,8]
 |7=>[4]
 |_=>[]
@[simp] def P0:ay:=⟨[],false,[],[],false⟩
@[simp] def Mp:Nat→List Nat
 |0=>[0]
 |1=>[0,4]
 |2=>[2,3]
 |3=>[7]
 |4=>[2,3]
 |5=>[2,3]
 |_=>[]
@[simp] def Yq:ay:=⟨[1],false,[],[],false⟩
@[simp] def Mq:Nat→List Nat
 |0=>[0,3,4]
 |1=>[0,3,4]
 |2=>[0,3,4]
 |3=>[0,3,4]
 |4=>[0,3,4,5]
 |5=>[0,3,4,5,27]
 |6=>[0,3,4,5]
 |7=>[0,3,4]
 |8=>[0,3,4]
 |9=>[0,3,4]
 |10=>[0,3,4,6,7]
 |11=>[0,3,4,6,44]
 |12=>[3,4,6]
 |13=>[3,4]
 |14=>[4]
 |_=>[]
@[simp] def Yr:Nat→List (List Nat)
 |7=>[[2,3],[2,3],[0,1],[0,1],[],[]]
 |_=>[]
@[simp] def Ys:ay:=⟨[1],false,[250,300,350],[],false⟩
@[simp] def Mr:Nat→List Nat
 |0=>[1]
 |1=>[1,3]
 |2=>[3,4]
 |3=>[3,4,10]
 |4=>[2]
 |5=>[2]
 |_=>[]
@[simp] def Yt:ay:=⟨[],false,[150],[],false⟩
@[simp] def Mt:Nat→List Nat
 |0=>[0]
 |1=>[0,4]
 |2=>[2]
 |3=>[2]
 |_=>[]
@[simp] def Yu:ay:=⟨[1],false,[],[],false⟩
@[simp] def Mu:Nat→List Nat
 |0=>[0,2]
 |1=>[0,2,3]
 |2=>[0,2,3]
 |3=>[0,2,3]
 |4=>[0,2,3]
 |5=>[0,2,3,24]
 |6=>[0,2,3,26]
 |7=>[0,2,3]
 |8=>[2,3]
 |9=>[2]
 |_=>[]
@[simp] def Yv:Nat→List (List Nat)
 |2=>[[2,3,4],[2,3,4],[0,1],[0,1],[0,1],[],[],[]]
 |4=>[[2,3,4,5],[2,3,4,5],[0,1,3],[0,1,2],[0,1],[0,1],[],[],[]]
 |7=>[[2,3,4,5],[2,3,4,5],[0,1,3],[0,1,2],[0,1],[0,1],[],[],[]]
 |_=>[]
@[simp] def Yw:Nat→List Gh
 |1=>[.adopt 250 14 251 6,.adopt 250 17 252 1]
 |_=>[]
@[simp] def Yx:ay:=⟨[1],false,[200,250,251,252],[],false⟩
@[simp] def Mv:Nat→List Nat
 |0=>[0,2]
 |1=>[0,2,3]
 |2=>[0,2,3]
 |3=>[0,2,3,11]
 |4=>[0,2,3]
 |5=>[0,2,3,4]
 |6=>[0,2,3,4,31]
 |7=>[0,2,3,4]
 |8=>[0,2,3]
 |9=>[0,2,3,44]
 |10=>[0,2,3]
 |11=>[2,3]
 |12=>[2]
 |_=>[]
@[simp] def Yy:Nat→Bool
 |6=>true
 |_=>false
@[simp] def Yz:Nat→List (List Nat)
 |4=>[[2,3,4],[2,3,4],[0,1],[0,1],[0,1],[],[],[]]
 |10=>[[2,3,4,5],[2,3,4,5],[0,1,3],[0,1,2],[0,1],[0,1],[],[],[]]
 |_=>[]
@[simp] def YA:Nat→List Gh
 |1=>[.adopt 250 15 251 1,.adopt 250 17 252 1]
 |1000002=>[.freeze 300]
 |_=>[]
@[simp] def YB:ay:=⟨[1],false,[200,250,251,252,300],[],false⟩
@[simp] def Mw:Nat→List Nat
 |0=>[0,2]
 |1=>[0,2,3]
 |2=>[0,2,3]
 |3=>[0,2,3,4]
 |4=>[0,2,3,4]
 |5=>[0,2,3]
 |6=>[0,2,3,5]
 |7=>[0,2,3,5,26]
 |8=>[0,2,3,5]
 |9=>[0,2,3]
 |10=>[0,2,3]
 |11=>[0,2,3]
 |12=>[2,3]
 |13=>[2]
 |_=>[]
@[simp] def YC:Nat→List (List Nat)
 |5=>[[1,2],[0],[0],[],[],[]]
 |_=>[]
@[simp] def YD:ay:=⟨[1],false,[200,250,300,350,1050],[],false⟩
@[simp] def Mx:Nat→List Nat
 |0=>[0,2]
 |1=>[2]
 |_=>[]
@[simp] def YE:ay:=⟨[1],false,[200],[],false⟩
@[simp] def My:Nat→List Nat
 |0=>[0,1,4]
 |1=>[0,4,5]
 |2=>[0,4,5,9]
 |3=>[4]
 |4=>[0,4,5]
 |5=>[0,4,5]
 |6=>[0,4,5]
 |7=>[0,4,5,30]
 |8=>[4,5]
 |9=>[4]
 |_=>[]
@[simp] def YF:Nat→List (List Nat)
 |4=>[[2,3,4,5],[2,3,4,5],[0,1],[0,1],[0,1],[0,1],[],[],[]]
 |6=>[[2,3,4],[2,3,4],[0,1],[0,1],[0,1],[],[],[]]
 |_=>[]
@[simp] def YG:Nat→List Gh
 |1=>[.adopt 350 14 351 6,.adopt 350 16 352 1]
 |_=>[]
@[simp] def YH:ay:=⟨[1],false,[300,350,351,352],[],false⟩
@[simp] def Mz:Nat→List Nat
 |0=>[0,2]
 |1=>[0,2]
 |2=>[0,2]
 |3=>[0,2,3]
 |4=>[0,2,3]
 |5=>[2,3]
 |6=>[2]
 |_=>[]
@[simp] def YI:ay:=⟨[1],false,[200,250],[],false⟩
@[simp] def MA:Nat→List Nat
 |0=>[0]
 |1=>[0,4]
 |2=>[0,4,5]
 |3=>[0,4,5,12]
 |4=>[0,4,5]
 |5=>[0,4,5]
 |6=>[0,4,6,7]
 |7=>[4,6,7,8]
 |8=>[4,6,7,8,25]
 |9=>[4,6,7,8]
 |10=>[4,6,7,8,30]
 |11=>[4,6,7,8]
 |12=>[4,6,7,8]
 |13=>[2,3]
 |_=>[]
@[simp] def YJ:ay:=⟨[],false,[],[],false⟩
@[simp] def MB:Nat→List Nat
 |0=>[1,2]
 |1=>[3]
 |_=>[]
@[simp] def YK:ay:=⟨[],false,[200],[],false⟩
@[simp] def MD:Nat→List Nat
 |0=>[0]
 |1=>[2]
 |_=>[]
@[simp] def YL:Nat→Bool
 |1=>true
 |_=>false
@[simp] def YM:ay:=⟨[1],false,[],[],false⟩
@[simp] def ME:Nat→List Nat
 |0=>[0]
 |1=>[0,3]
 |2=>[0,3,4]
 |3=>[0,3,4,5]
 |4=>[0,3,4,5,10]
 |5=>[0,3,4,5]
 |6=>[0,3]
 |7=>[0,3,20]
 |8=>[3]
 |9=>[2]
 |_=>[]
@[simp] def YN:ay:=⟨[1],false,[250],[],false⟩
@[simp] def MF:Nat→List Nat
 |0=>[0,1,4]
 |1=>[0,1,4,5]
 |2=>[0,1,4,5,12]
 |3=>[4]
 |4=>[0,1,4,5,6]
 |5=>[0,1,4,5,6,25]
 |6=>[0,1,4,5,6,7]
 |7=>[0,1,4,5,6]
 |8=>[0,1,4,5,6,41]
 |9=>[4]
 |_=>[]
@[simp] def YO:Nat→List (List Nat)
 |7=>[[3,4,5,6,9,10],[3,4,5,6,9,10],[3,4,5,6,9,10],[0,1,2,4,5,6,7,9,10],[0,1,2,3,5,6,9,10],[0,1,2,3,4,9,10],[0,1,2,3,4,9,10],[3,9,10],[9,10],[0,1,2,3,4,5,6,7,8],[0,1,2,3,4,5,6,7,8],[],[]]
 |_=>[]
@[simp] def YP:ay:=⟨[1],false,[300,400,450],[],false⟩
@[simp] def MG:Nat→List Nat
 |0=>[]
 |1=>[0]
 |_=>[]
@[simp] def YQ:ay:=⟨[],false,[],[],false⟩
@[simp] def MH:Nat→List Nat
 |0=>[0,2]
 |1=>[0,2,3]
 |2=>[0,2,3]
 |3=>[2]
 |4=>[0,2,3,10]
 |5=>[0,2,3,4]
 |6=>[0,2,3,13]
 |7=>[0,2,3,4]
 |8=>[0,2,3,4]
 |9=>[0,2,3,4]
 |10=>[0,2,5]
 |11=>[2,5]
 |12=>[2]
 |_=>[]
@[simp] def YR:Nat→List (List Nat)
 |10=>[[1,2,3,4,5,7],[0,4,5,7],[0,4,5,7],[0,4,5,7],[0,1,2,3,7],[0,1,2,3,7],[7],[0,1,2,3,4,5,6],[]]
 |_=>[]
@[simp] def YS:ay:=⟨[1],false,[200,250,350],[],false⟩
@[simp] def MI:Nat→List Nat
 |0=>[0]
 |1=>[0,3]
 |2=>[2]
 |_=>[]
@[simp] def YT:ay:=⟨[],false,[],[],false⟩
@[simp] def MJ:Nat→List Nat
 |0=>[0,2]
 |1=>[0,2,3]
 |2=>[0,2,3,7]
 |3=>[2]
 |4=>[0,2,3,17]
 |5=>[2]
 |6=>[0,2,3,23]
 |7=>[2]
 |8=>[0,2,3,29]
 |9=>[0,2]
 |10=>[0,2]
 |11=>[0,2,4]
 |12=>[0,2,4]
 |13=>[2,4]
 |14=>[2]
 |15=>[0,2,3]
 |16=>[0,2,3,45]
 |17=>[2]
 |18=>[0,2,3,56]
 |19=>[2]
 |20=>[2]
 |_=>[]
@[simp] def YU:Nat→List (List Nat)
 |3=>[[3,4],[3,4],[3,4],[0,1,2],[0,1,2],[],[]]
 |17=>[[2,3,4,5,6],[2,3,4,5,6],[0,1,5,6],[0,1,5,6],[0,1,5,6],[0,1,2,3,4],[0,1,2,3,4],[],[]]
 |19=>[[2,3,4,5,6],[2,3,4,5,6],[0,1,5,6],[0,1,5,6],[0,1,5,6],[0,1,2,3,4],[0,1,2,3,4],[],[]]
 |_=>[]
@[simp] def YV:ay:=⟨[1],false,[200,250,300],[],false⟩
def od5:Nat→List (List Nat)
 |9=>[[],[],[],[4,5,7,8,9],[3,5,7,8,9],[3,4,7,8,9],[7,8,9],[3,4,5,6,8,9],[3,4,5,6,7,9],[3,4,5,6,7,8],[],[],[],[]]
 |_=>[]
def od6:Nat→List (List Nat)
 |6=>[[],[],[],[4,5,7,8,9],[3,5,7,8,9],[3,4,7,8,9],[7,8,9],[3,4,5,6,8,9],[3,4,5,6,7,9],[3,4,5,6,7,8],[],[],[],[]]
 |_=>[]
def an4:Nat→List (List Nat)
 |5=>[[1,2,4,5,6,7,8,10,11],[0,2,4,5,6,7,8,10,11],[0,1,4,5,6,7,8,10,11],[4,5,6,7,8,10,11],[0,1,2,3,5,6,7,8,10,11],[0,1,2,3,4,6,7,8,10,11],[0,1,2,3,4,5,7,10,11],[0,1,2,3,4,5,6,10,11],[0,1,2,3,4,5,10,11],[10,11],[0,1,2,3,4,5,6,7,8,9,11],[0,1,2,3,4,5,6,7,8,9,10],[],[]]
 |_=>[]
def an5:Nat→List (List Nat)
 |5=>[[1,2,3],[0,2,3,4],[0,1,3],[0,1,2],[1],[]]
 |6=>[[2,4,5,6,7],[2,4,5,6,7],[0,1,4,5,6,7],[4,5,6,7],[0,1,2,3,6,8,9],[0,1,2,3,6,8,9],[0,1,2,3,4,5,8,9],[0,1,2,3,8,9],[4,5,6,7],[4,5,6,7],[],[]]
 |7=>[[1,2,4,5,6,8,9],[0,2,4,5,6,8,9],[0,1,4,5,6,8,9],[4,5,6,8,9],[0,1,2,3,5,6,8,9],[0,1,2,3,4,6,8,9],[0,1,2,3,4,5,8,9],[8,9],[0,1,2,3,4,5,6,7,9],[0,1,2,3,4,5,6,7,8],[],[]]
 |10=>[[1,2,3,4,5,6],[0,2,3,4,5],[0,1,4,5],[0,1,4,5],[0,1,2,3],[0,1,2,3],[0],[],[]]
 |_=>[]
def an6:Nat→List (List Nat)
 |5=>[[1,2,4,6,7],[0,2,4,6,7],[0,1,4,6,7],[4,6,7],[0,1,2,3,6,7],[6,7],[0,1,2,3,4,5,7],[0,1,2,3,4,5,6],[],[],[]]
 |_=>[]
def an7:Nat→List (List Nat)
 |9=>[[1,2,4,5,6],[0,2,4,5,6],[0,1,4,5,6],[4,5,6],[0,1,2,3,5,6],[0,1,2,3,4,6],[0,1,2,3,4,5],[],[],[]]
 |_=>[]
def an8:Nat→List (List Nat)
 |1=>[[1,2,3,4],[0],[0],[0],[0],[],[],[]]
 |_=>[]
def an9:Nat→List (List Nat)
 |9=>[[2,3,4],[2,3,4],[0,1],[0,1],[0,1],[],[],[]]
 |11=>[[1,2,3,4],[0,5],[0,5],[0,5],[0,5],[1,2,3,4],[]]
 |_=>[]
def aoa:Nat→List (List Nat)
 |6=>[[1,4,5,6,7],[0,4,5,6,7],[4,5,6,7],[4,5,6,7],[0,1,2,3,5],[0,1,2,3,4],[0,1,2,3],[0,1,2,3],[]]
 |_=>[]
def aob:Nat→List (List Nat)
 |3=>[[1,2,3,4,5,6,7,8,9],[0,3,4,5,6,7,9],[0,3,4,5,6,7,9],[0,1,2,5,6,9],[0,1,2,5,6,9],[0,1,2,3,4,9],[0,1,2,3,4,9],[0,1,2,9],[0,9],[0,1,2,3,4,5,6,7,8],[],[],[]]
 |5=>[[2,3,4,5,8],[2,3,4,5,8],[0,1,8],[0,1,8],[0,1,8],[0,1,8],[8],[8],[0,1,2,3,4,5,6,7],[]]
 |10=>[[4,5,8,9,10,11,12,13,14,15],[4,5,8,9,10,11,12,13,14,15],[4,5,8,9,10,11,12,13,14,15],[4,5,8,9,10,11,12,13,14,15],[0,1,2,3,8,9,10,11,12,13,14,15],[0,1,2,3,8,9,10,11,12,13,14,15],[8,9,10,11,12,13,14,15],[8,9,10,11,12,13,14,15],[0,1,2,3,4,5,6,7,12,13,14,15],[0,1,2,3,4,5,6,7,12,13,14,15],[0,1,2,3,4,5,6,7,12,13,14,15],[0,1,2,3,4,5,6,7,12,13,14,15],[0,1,2,3,4,5,6,7,8,9,10,11],[0,1,2,3,4,5,6,7,8,9,10,11],[0,1,2,3,4,5,6,7,8,9,10,11],[0,1,2,3,4,5,6,7,8,9,10,11],[],[]]
 |_=>[]
def aoc:Nat→List (List Nat)
 |1=>[[1,2,3,4,5,6],[0,3,4,6],[0,3,4,6],[0,1,2,4,6],[0,1,2,3,6],[0,6],[0,1,2,3,4,5],[],[],[]]
 |5=>[[1,2,3,4,5,6,7,8,9,10,11,12,13],[0,5,6,7,8,9,10,11,12],[0,5,6,7,8,9,10,11,12],[0,5,6,7,8,9,10,11,12],[0,5,6,7,8,9,10,11,12],[0,1,2,3,4,7],[0,1,2,3,4,7],[0,1,2,3,4,5,6],[0,1,2,3,4],[0,1,2,3,4],[0,1,2,3,4],[0,1,2,3,4],[0,1,2,3,4],[0],[],[],[]]
 |7=>[[4,5,6,7,8,9,10,11],[4,5,6,7,8,9,10,11],[4,5,6,7,8,9,10,11],[4,5,6,7,8,9,10,11],[0,1,2,3,8,9,10,11],[0,1,2,3,8,9,10,11],[0,1,2,3,8,9,10,11],[0,1,2,3,8,9,10,11],[0,1,2,3,4,5,6,7],[0,1,2,3,4,5,6,7],[0,1,2,3,4,5,6,7],[0,1,2,3,4,5,6,7],[],[]]
 |_=>[]
def aod:Nat→List (List Nat)
 |2=>[[1,2,3,4,5,8],[0,3,4,5,8],[0,3,4,5,8],[0,1,2,5,8],[0,1,2,5,8],[0,1,2,3,4,8],[8],[8],[0,1,2,3,4,5,6,7],[]]
 |8=>[[1,2,3,4,5,6,7,8,9],[0,5,6,7,8],[0,5,6,7,8],[0,5,6,7,8],[0,5,6,7,8],[0,1,2,3,4],[0,1,2,3,4],[0,1,2,3,4],[0,1,2,3,4],[0],[],[],[]]
 |12=>[[4,5,6,7],[4,5,6,7],[4,5,6,7],[4,5,6,7],[0,1,2,3],[0,1,2,3],[0,1,2,3],[0,1,2,3],[],[]]
 |_=>[]
def aoe:Nat→List (List Nat)
 |3=>[[1,2,3],[0,2,3,4],[0,1,3,4,5],[0,1,2,4,5,6],[1,2,3],[2,3],[3],[]]
 |10=>[[1,2],[0,2,3],[0,1,3,4,5],[1,2],[2],[2],[]]
 |_=>[]
def aof:Nat→List (List Nat)
 |5=>[[4,5],[4,5],[4,5],[4,5],[0,1,2,3],[0,1,2,3],[],[]]
 |_=>[]
def aog:Nat→List (List Nat)
 |4=>[[],[],[],[4,7,8,9,10,11,12,13,14,15,16,17,18,19],[3,7,8,9,10,11,12,13,14,15,16,17,18,19],[7,8,9,10,11,12,13,14,15,16,17,18,19],[7,8,9,10,11,12,13,14,15,16,17,18,19],[3,4,5,6,8,13,14,15,16,17,18],[3,4,5,6,7,13,14,15,16,17,18],[3,4,5,6,13,14,15,16,17,18],[3,4,5,6,13,14,15,16,17,18],[3,4,5,6,13,14,15,16,17,18],[3,4,5,6,13,14,15,16,17,18],[3,4,5,6,7,8,9,10,11,12,14,15],[3,4,5,6,7,8,9,10,11,12,13],[3,4,5,6,7,8,9,10,11,12,13],[3,4,5,6,7,8,9,10,11,12],[3,4,5,6,7,8,9,10,11,12],[3,4,5,6,7,8,9,10,11,12],[3,4,5,6],[],[],[]]
 |_=>[]
def aoh:Nat→List (List Nat)
 |6=>[[1,4,5,6,7],[0,4,5,6,7],[4,5,6,7],[4,5,6,7],[0,1,2,3,5],[0,1,2,3,4],[0,1,2,3],[0,1,2,3],[]]
 |_=>[]
def aoi:Nat→List (List Nat)
 |6=>[[1,2,3,4,5,6,7,8],[0,5,6],[0,5,6],[0,5,6],[0,5,6],[0,1,2,3,4],[0,1,2,3,4],[0],[0],[]]
 |8=>[[1,2,3,4,5,6,7,8,9,10],[0,5,6],[0,5,6],[0,5,6],[0,5,6],[0,1,2,3,4],[0,1,2,3,4],[0],[0],[0],[0],[]]
 |11=>[[1,2,3],[0,2,3],[0,1],[0,1],[],[],[7],[6,8],[7],[]]
 |18=>[[4,5,6],[4,5,6],[4,5,6],[4,5,6],[0,1,2,3,6],[0,1,2,3,6],[0,1,2,3,4,5],[],[]]
 |21=>[[1,2,3],[0,2,3],[0,1],[0,1],[],[],[7],[6,8],[7],[]]
 |_=>[]
def aoj:Nat→List (List Nat)
 |15=>[[4,5,7,8,9,10,11,12,13,14,15,16,17,18,19,20],[4,5,7,8,9,10,11,12,13,14,15,16,17,18,19,20],[4,5,7,8,9,10,11,12,13,14,15,16,17,18,19,20],[4,5,7,8,9,10,11,12,13,14,15,16,17,18,19,20],[0,1,2,3,7,8,9,10,11,12,13,14,15,16,17,18,19,20],[0,1,2,3,7,8,9,10,11,12,13,14,15,16,17,18,19,20],[7,8,9,10,11,12,13,14,15,16,17,18,19,20],[0,1,2,3,4,5,6,9,10,11,12,13,14,15,16,17,18,19],[0,1,2,3,4,5,6,9,10,11,12,13,14,15,16,17,18,19],[0,1,2,3,4,5,6,7,8,13,14,15,16,17,18],[0,1,2,3,4,5,6,7,8,13,14,15,16,17,18],[0,1,2,3,4,5,6,7,8,13,14,15,16,17,18],[0,1,2,3,4,5,6,7,8,13,14,15,16,17,18],[0,1,2,3,4,5,6,7,8,9,10,11,12,15,16,17,18],[0,1,2,3,4,5,6,7,8,9,10,11,12,15,16,17,18],[0,1,2,3,4,5,6,7,8,9,10,11,12,13,14,17],[0,1,2,3,4,5,6,7,8,9,10,11,12,13,14,17],[0,1,2,3,4,5,6,7,8,9,10,11,12,13,14,15,16],[0,1,2,3,4,5,6,7,8,9,10,11,12,13,14],[0,1,2,3,4,5,6,7,8],[0,1,2,3,4,5,6],[]]
 |19=>[[4,5],[4,5],[4,5],[4,5],[0,1,2,3],[0,1,2,3],[],[],[]]
 |_=>[]
def aok:Nat→List (List Nat)
 |5=>[[4,5,6,7,8,9],[4,5,6,7,8,9],[4,5,6,7,8,9],[4,5,6,7,8,9],[0,1,2,3,6,7,8,9],[0,1,2,3,6,7,8,9],[0,1,2,3,4,5],[0,1,2,3,4,5],[0,1,2,3,4,5],[0,1,2,3,4,5],[],[]]
 |_=>[]
def aol:Nat→List (List Nat)
 |5=>[[1,2,3,4,5,6,7,8],[0,3,4,5,6,7],[0,3,4,5,6,7],[0,1,2,4,5,6,7],[0,1,2,3,5],[0,1,2,3,4],[0,1,2,3],[0,1,2,3],[0],[],[],[]]
 |_=>[]
def aom:Nat→List (List Nat)
 |12=>[[2,3,4,5,6,7,8,9,10,11],[2,3,4,5,6,7,8,9,10,11],[0,1,3,7],[0,1,2,7],[0,1,7],[0,1,7],[0,1,7],[0,1,2,3,4,5,6],[0,1],[0,1],[0,1],[0,1],[],[],[]]
 |17=>[[2,3,4,5,6,7,8,9,10,11],[2,3,4,5,6,7,8,9,10,11],[0,1,3,7],[0,1,2,7],[0,1,7],[0,1,7],[0,1,7],[0,1,2,3,4,5,6],[0,1],[0,1],[0,1],[0,1],[],[],[]]
 |_=>[]
def ag7:Nat→List (List Nat)
 |5=>[[1],[0],[],[],[],[],[7,8,9,10,11],[6,8],[6,7],[6],[6],[6],[],[],[],[],[],[],[19,23,24,25,26,27,28,29,30,31],[18,23,24,25,26,27,28,29,30,31],[23,24,25,26,27,28,29,30,31],[23,24,25,26,27,28,29,30,31],[23,24,25,26,27,28,29,30,31],[18,19,20,21,22,24,25,26,27,28],[18,19,20,21,22,23,25],[18,19,20,21,22,23,24],[18,19,20,21,22,23],[18,19,20,21,22,23],[18,19,20,21,22,23],[18,19,20,21,22],[18,19,20,21,22],[18,19,20,21,22],[],[]]
 |_=>[]
def ag8:Nat→List (List Nat)
 |0=>[[1,2,3,4,5],[0,5,6,7],[0,5,6,7],[0,5,6,7],[0,5,6,7],[0,1,2,3,4,6,7],[1,2,3,4,5],[1,2,3,4,5],[],[]]
 |_=>[]
def ag9:Nat→List (List Nat)
 |2=>[[1,2,3,4],[0,5,6],[0,5,6],[0,5,6],[0,5,6],[1,2,3,4],[1,2,3,4],[],[],[]]
 |_=>[]
def aha:Nat→List (List Nat)
 |4=>[[3,4,5,6,7,8,9,10,11,12],[3,4,5,6,7,8,9,10,11,12],[3,4,5,6,7,8,9,10,11,12],[0,1,2,7,9,10,11,12],[0,1,2,7,9,10,11,12],[0,1,2,7,9,10,11,12],[0,1,2,7,9,10,11,12],[0,1,2,3,4,5,6,9,10,11,12],[0,1,2,9,10,11,12],[0,1,2,3,4,5,6,7,8],[0,1,2,3,4,5,6,7,8],[0,1,2,3,4,5,6,7,8],[0,1,2,3,4,5,6,7,8],[],[],[]]
 |_=>[]
def ahb:Nat→List (List Nat)
 |1=>[[4,5,8,9,10,11,12,13,14,15,16,17,18,19,20,21,22,23,24],[4,5,8,9,10,11,12,13,14,15,16,17,18,19,20,21,22,23,24],[4,5,8,9,10,11,12,13,14,15,16,17,18,19,20,21,22,23,24],[4,5,8,9,10,11,12,13,14,15,16,17,18,19,20,21,22,23,24],[0,1,2,3,8,9,10,11,12,13,14,15,16,17,18,19,20,21,22,23,24],[0,1,2,3,8,9,10,11,12,13,14,15,16,17,18,19,20,21,22,23,24],[8,9,10,11,12,13,14,15,16,17,18,19,20,21,22,23,24],[8,9,10,11,12,13,14,15,16,17,18,19,20,21,22,23,24],[0,1,2,3,4,5,6,7,12,13,16,17,18,19,20,21,22,23,24,25],[0,1,2,3,4,5,6,7,12,13,16,17,18,19,20,21,22,23,24,25],[0,1,2,3,4,5,6,7,12,13,16,17,18,19,20,21,22,23,24,25],[0,1,2,3,4,5,6,7,12,13,16,17,18,19,20,21,22,23,24,25],[0,1,2,3,4,5,6,7,8,9,10,11,16,17,18,19,20,21,22,23,24,25],[0,1,2,3,4,5,6,7,8,9,10,11,16,17,18,19,20,21,22,23,24,25],[0,1,2,3,4,5,6,7,16,17,18,19,20,21,22,23,24,25],[0,1,2,3,4,5,6,7,16,17,18,19,20,21,22,23,24,25],[0,1,2,3,4,5,6,7,8,9,10,11,12,13,14,15,20,21,22,25,26],[0,1,2,3,4,5,6,7,8,9,10,11,12,13,14,15,20,21,22,25,26],[0,1,2,3,4,5,6,7,8,9,10,11,12,13,14,15,20,21,22,25,26],[0,1,2,3,4,5,6,7,8,9,10,11,12,13,14,15,20,21,22,25,26],[0,1,2,3,4,5,6,7,8,9,10,11,12,13,14,15,16,17,18,19,25,26],[0,1,2,3,4,5,6,7,8,9,10,11,12,13,14,15,16,17,18,19,25,26],[0,1,2,3,4,5,6,7,8,9,10,11,12,13,14,15,16,17,18,19,25,26],[0,1,2,3,4,5,6,7,8,9,10,11,12,13,14,15,25,26],[0,1,2,3,4,5,6,7,8,9,10,11,12,13,14,15,25,26],[8,9,10,11,12,13,14,15,16,17,18,19,20,21,22,23,24],[16,17,18,19,20,21,22,23,24],[]]
 |_=>[]
def ahc:Nat→List (List Nat)
 |64=>[[1,2,3,4,5,6,7],[0,3,4,5,6,7],[0,3,4,5,6,7],[0,1,2,5],[0,1,2,5],[0,1,2,3,4],[0,1,2],[0,1,2],[],[],[11],[10,12],[11],[]]
 |67=>[[2,3,4,5,6,7,8,9,10,11,12],[2,3,4,5,6,7,8,9,10,11,12],[0,1,3,4,5,6,7,8,9,10,11],[0,1,2,7,8,9,10],[0,1,2,7,8,9,10],[0,1,2,7,8,9,10],[0,1,2,7,8,9,10],[0,1,2,3,4,5,6,8,9,10],[0,1,2,3,4,5,6,7,9],[0,1,2,3,4,5,6,7,8],[0,1,2,3,4,5,6,7],[0,1,2],[0,1],[],[]]
 |71=>[[4,5,6,7,8,9,10],[4,5,6,7,8,9,10],[4,5,6,7,8,9,10],[4,5,6,7,8,9,10],[0,1,2,3,5,7,8,9,10],[0,1,2,3,4,7,8,9,10],[0,1,2,3,7,8,9,10],[0,1,2,3,4,5,6,8],[0,1,2,3,4,5,6,7],[0,1,2,3,4,5,6],[0,1,2,3,4,5,6],[],[]]
 |_=>[]
def ahd:Nat→List (List Nat)
 |1=>[[4,5,11],[4,5,11],[4,5,11],[4,5,11],[0,1,2,3,11],[0,1,2,3,11],[11],[11],[9,10,11],[8,10,11,12],[8,9,11,12,13],[0,1,2,3,4,5,6,7,8,9,10],[9,10],[10],[]]
 |4=>[[4,5,6],[4,5,6],[4,5,6],[4,5,6],[0,1,2,3],[0,1,2,3],[0,1,2,3],[],[],[10,11],[9,11,12],[9,10,12,13],[10,11],[11]]
 |8=>[[1,2,3,4,5,6,7,8,9,10,11],[0,2,3,5,6,7,8,9,10],[0,1,5,6,7,8,9,10],[0,1,5,6,7,8,9,10],[0,5,6,7,8,9,10],[0,1,2,3,4,6,7,8,9],[0,1,2,3,4,5,8,9],[0,1,2,3,4,5,8,9],[0,1,2,3,4,5,6,7],[0,1,2,3,4,5,6,7],[0,1,2,3,4],[0],[],[],[]]
 |32=>[[1,2,3,4,5,6,7,8,9,10,11,12,13,14,15,16,17,18,19,20,21],[0,2,3,4,5,6,7,8,9,10,11,12,13,14,15,16,17,18,20],[0,1,4,7,10,11,12,13,14,15,16,17,18,20],[0,1,4,7,10,11,12,13,14,15,16,17,18,20],[0,1,2,3,7,10,11,12,13,14,15,16,17,18,20],[0,1,7,10,11,12,13,14,15,16,17,18,20],[0,1,7,10,11,12,13,14,15,16,17,18,20],[0,1,2,3,4,5,6,10,11,12,13,14,15,16,17,18,20],[0,1,10,11,12,13,14,15,16,17,18,20],[0,1,10,11,12,13,14,15,16,17,18,20],[0,1,2,3,4,5,6,7,8,9,12,15,16,20],[0,1,2,3,4,5,6,7,8,9,12,15,16,20],[0,1,2,3,4,5,6,7,8,9,10,11,15,16,20],[0,1,2,3,4,5,6,7,8,9,15,16,20],[0,1,2,3,4,5,6,7,8,9,15,16,20],[0,1,2,3,4,5,6,7,8,9,10,11,12,13,14,20],[0,1,2,3,4,5,6,7,8,9,10,11,12,13,14,20],[0,1,2,3,4,5,6,7,8,9,20],[0,1,2,3,4,5,6,7,8,9,20],[0,20],[0,1,2,3,4,5,6,7,8,9,10,11,12,13,14,15,16,17,18,19],[0],[],[]]
 |39=>[[1,2,3,4,6,7,8,9,10,12,13,14,15,16,18,19,20,21,22,23,24,25],[0,6,7,8,9,10,12,13,14,15,16,18,19,20,21,22,23,24,25],[0,6,7,8,9,10,12,13,14,15,16,18,19,20,21,22,23,24,25],[0,6,7,8,9,10,12,13,14,15,16,18,19,20,21,22,23,24,25],[0,6,7,8,9,10,12,13,14,15,16,18,19,20,21,22,23,24,25],[6,7,8,9,10,12,13,14,15,16,18,19,20,21,22,23,24,25],[0,1,2,3,4,5,7,8,9,10,12,13,14,15,16,18,19,20,21,22,23,24,25],[0,1,2,3,4,5,6,12,13,14,15,16,18,19,20,21,22,23,24,25],[0,1,2,3,4,5,6,12,13,14,15,16,18,19,20,21,22,23,24,25],[0,1,2,3,4,5,6,12,13,14,15,16,18,19,20,21,22,23,24,25],[0,1,2,3,4,5,6,12,13,14,15,16,18,19,20,21,22,23,24,25],[12,13,14,15,16,18,19,20,21,22,23,24,25],[0,1,2,3,4,5,6,7,8,9,10,11,13,14,15,16,18,19,20,21,22,23,24,25],[0,1,2,3,4,5,6,7,8,9,10,11,12,18,19,20,21,22,23,24,25],[0,1,2,3,4,5,6,7,8,9,10,11,12,18,19,20,21,22,23,24,25],[0,1,2,3,4,5,6,7,8,9,10,11,12,18,19,20,21,22,23,24,25],[0,1,2,3,4,5,6,7,8,9,10,11,12,18,19,20,21,22,23,24,25],[18,19,20,21,22,23,24,25],[0,1,2,3,4,5,6,7,8,9,10,11,12,13,14,15,16,17,21,22,23,24],[0,1,2,3,4,5,6,7,8,9,10,11,12,13,14,15,16,17,21,22,23,24],[0,1,2,3,4,5,6,7,8,9,10,11,12,13,14,15,16,17,21,22,23,24],[0,1,2,3,4,5,6,7,8,9,10,11,12,13,14,15,16,17,18,19,20,23,24],[0,1,2,3,4,5,6,7,8,9,10,11,12,13,14,15,16,17,18,19,20,23,24],[0,1,2,3,4,5,6,7,8,9,10,11,12,13,14,15,16,17,18,19,20,21,22],[0,1,2,3,4,5,6,7,8,9,10,11,12,13,14,15,16,17,18,19,20,21,22],[0,1,2,3,4,5,6,7,8,9,10,11,12,13,14,15,16,17],[],[],[]]
 |47=>[[2,3,4,6],[2,3,4,6],[0,1,3,4,6],[0,1,2,6],[0,1,2,6],[6],[0,1,2,3,4,5],[],[],[],[]]
 |53=>[[1,2,3,4,5,6,9,10],[0,3,4,5,9,10],[0,3,4,5,9,10],[0,1,2,4,5,9,10],[0,1,2,3,9,10],[0,1,2,3,9,10],[0,9,10],[9,10],[9,10],[0,1,2,3,4,5,6,7,8],[0,1,2,3,4,5,6,7,8],[],[]]
 |63=>[[4,5,6,7,8,9,10,16],[4,5,6,7,8,9,10,16],[4,5,6,7,8,9,10,16],[4,5,6,7,8,9,10,16],[0,1,2,3,6,7,8,9,10,16],[0,1,2,3,6,7,8,9,10,16],[0,1,2,3,4,5,8,16],[0,1,2,3,4,5,8,16],[0,1,2,3,4,5,6,7,16],[0,1,2,3,4,5,16],[0,1,2,3,4,5,16],[16],[16],[14,15,16],[13,15,16,17],[13,14,16,17,18],[0,1,2,3,4,5,6,7,8,9,10,11,12,13,14,15],[14,15],[15],[]]
 |_=>[]
def ahe:Nat→List (List Nat)
 |6=>[[2,3,4,5,6,7,8],[2,3,4,5,6,7,8],[0,1,4],[0,1,4],[0,1,2,3],[0,1],[0,1],[0,1],[0,1],[],[],[]]
 |_=>[]
def ahf:Nat→List (List Nat)
 |5=>[[1,2,3,4,5],[0,2,3,4,5,6,7],[0,1,4,5],[0,1,4,5],[0,1,2,3,6,7],[0,1,2,3,6,7],[1,4,5],[1,4,5],[],[]]
 |_=>[]
def ahg:Nat→List (List Nat)
 |4=>[[4,7,8],[4,7,8],[4,7,8],[4,7,8],[0,1,2,3,7,8],[7,8],[7,8],[0,1,2,3,4,5,6],[0,1,2,3,4,5,6],[]]
 |7=>[[1,2,3,4,5,6,7],[0,5,6],[0,5,6],[0,5,6],[0,5,6],[0,1,2,3,4],[0,1,2,3,4],[0],[],[],[]]
 |_=>[]
def ahh:Nat→List (List Nat)
 |3=>[[4,5,6,7,8,9,10,13],[4,5,6,7,8,9,10,13],[4,5,6,7,8,9,10,13],[4,5,6,7,8,9,10,13],[0,1,2,3,9,13],[0,1,2,3,9,13],[0,1,2,3,9,13],[0,1,2,3,9,13],[0,1,2,3,9,13],[0,1,2,3,4,5,6,7,8,13],[0,1,2,3,13],[13],[13],[0,1,2,3,4,5,6,7,8,9,10,11,12]]
 |9=>[[1,2,3,4,5,6,7,8,9,10,11,12],[0,5,6,7,8,9,10,11],[0,5,6,7,8,9,10,11],[0,5,6,7,8,9,10,11],[0,5,6,7,8,9,10,11],[0,1,2,3,4,10],[0,1,2,3,4,10],[0,1,2,3,4,10],[0,1,2,3,4,10],[0,1,2,3,4,10],[0,1,2,3,4,5,6,7,8,9],[0,1,2,3,4],[0],[],[],[]]
 |_=>[]
def ahi:Nat→List (List Nat)
 |5=>[[1],[0,2,3],[1],[1],[],[]]
 |7=>[[1,2,3,4,5,6,7,8],[0,4,5,6],[0,4,5,6],[0,4,5,6],[0,1,2,3],[0,1,2,3],[0,1,2,3],[0],[0],[],[]]
 |10=>[[1],[0,2,3],[1],[1],[],[]]
 |13=>[[1,2,3,4,5,6,7,8],[0,4,5,6],[0,4,5,6],[0,4,5,6],[0,1,2,3],[0,1,2,3],[0,1,2,3],[0],[0],[],[]]
 |16=>[[1],[0,2,3],[1],[1],[],[]]
 |18=>[[1,2,3,4,5,6,7,8],[0,4,5,6],[0,4,5,6],[0,4,5,6],[0,1,2,3],[0,1,2,3],[0,1,2,3],[0],[0],[],[]]
 |19=>[[1,2,3],[0],[0],[0],[],[]]
 |21=>[[1,2,3,4,5],[0],[0],[0],[0],[0],[],[]]
 |_=>[]
def ahj:Nat→List (List Nat)
 |6=>[[1,2,3,4,5,6,7,8],[0,4,5,6],[0,4,5,6],[0,4,5,6],[0,1,2,3],[0,1,2,3],[0,1,2,3],[0],[0],[],[]]
 |_=>[]
def ahk:Nat→List (List Nat)
 |5=>[[5,8,9,10,11,12,13,14,15],[5,8,9,10,11,12,13,14,15],[5,8,9,10,11,12,13,14,15],[5,8,9,10,11,12,13,14,15],[5,8,9,10,11,12,13,14,15],[0,1,2,3,4,8,9,10,11,12,13,14,15],[8,9,10,11,12,13,14,15],[8,9,10,11,12,13,14,15],[0,1,2,3,4,5,6,7,13,16],[0,1,2,3,4,5,6,7,13,16],[0,1,2,3,4,5,6,7,13,16],[0,1,2,3,4,5,6,7,13,16],[0,1,2,3,4,5,6,7,13,16],[0,1,2,3,4,5,6,7,8,9,10,11,12,16],[0,1,2,3,4,5,6,7,16],[0,1,2,3,4,5,6,7,16],[8,9,10,11,12,13,14,15],[]]
 |_=>[]
def ahl:Nat→List (List Nat)
 |4=>[[2,3,4],[2,3,4],[0,1,5],[0,1,5],[0,1,5],[2,3,4],[]]
 |_=>[]
def ahm:Nat→List (List Nat)
 |10=>[[4,5,6,7],[4,5,6,7],[4,5,6,7],[4,5,6,7],[0,1,2,3,5,6,7],[0,1,2,3,4],[0,1,2,3,4],[0,1,2,3,4],[],[]]
 |18=>[[4,7,8,9],[4,7,8,9],[4,7,8,9],[4,7,8,9],[0,1,2,3,7,8,9],[7,8,9],[7,8,9],[0,1,2,3,4,5,6],[0,1,2,3,4,5,6],[0,1,2,3,4,5,6],[],[],[],[14,15],[13,15,16],[13,14,16,17],[14,15],[15],[]]
 |_=>[]
def ahn:Nat→List (List Nat)
 |9=>[[5,8,10,11,12,13,14,15,16,17,18,19,20],[5,8,10,11,12,13,14,15,16,17,18,19,20],[5,8,10,11,12,13,14,15,16,17,18,19,20],[5,8,10,11,12,13,14,15,16,17,18,19,20],[5,8,10,11,12,13,14,15,16,17,18,19,20],[0,1,2,3,4,8,10,11,12,13,14,15,16,17,18,19,20],[8,10,11,12,13,14,15,16,17,18,19,20],[8,10,11,12,13,14,15,16,17,18,19,20],[0,1,2,3,4,5,6,7,10,11,12,13,14,15,16,17,18,19,20],[10,11,12,13,14,15,16,17,18,19,20],[0,1,2,3,4,5,6,7,8,9,14,17,21],[0,1,2,3,4,5,6,7,8,9,14,17,21],[0,1,2,3,4,5,6,7,8,9,14,17,21],[0,1,2,3,4,5,6,7,8,9,14,17,21],[0,1,2,3,4,5,6,7,8,9,10,11,12,13,17,21],[0,1,2,3,4,5,6,7,8,9,17,21],[0,1,2,3,4,5,6,7,8,9,17,21],[0,1,2,3,4,5,6,7,8,9,10,11,12,13,14,15,16,21],[0,1,2,3,4,5,6,7,8,9,21],[0,1,2,3,4,5,6,7,8,9,21],[0,1,2,3,4,5,6,7,8,9,21],[10,11,12,13,14,15,16,17,18,19,20],[]]
 |_=>[]
def aho:Nat→List (List Nat)
 |6=>[[3,4,5],[3,4,5],[3,4,5],[0,1,2],[0,1,2],[0,1,2],[],[]]
 |7=>[[3,4,5],[3,4,5],[3,4,5],[0,1,2],[0,1,2],[0,1,2],[],[]]
 |8=>[[3,4,5,6,7,8,9,10,11,12],[3,4,5,6,7,8,9,10,11,12],[3,4,5,6,7,8,9,10,11,12],[0,1,2,6,7,8,9,10,11,12],[0,1,2,6,7,8,9,10,11,12],[0,1,2,6,7,8,9,10,11,12],[0,1,2,3,4,5,7,8,9,12],[0,1,2,3,4,5,6,12],[0,1,2,3,4,5,6,12],[0,1,2,3,4,5,6,12],[0,1,2,3,4,5,12],[0,1,2,3,4,5,12],[0,1,2,3,4,5,6,7,8,9,10,11],[],[]]
 |11=>[[3,4,5],[3,4,5],[3,4,5],[0,1,2],[0,1,2],[0,1,2],[],[]]
 |14=>[[3,4,5],[3,4,5],[3,4,5],[0,1,2],[0,1,2],[0,1,2],[],[]]
 |15=>[[3,4,5,6,7,8,9,10,11,12],[3,4,5,6,7,8,9,10,11,12],[3,4,5,6,7,8,9,10,11,12],[0,1,2,6,7,8,9,10,11,12],[0,1,2,6,7,8,9,10,11,12],[0,1,2,6,7,8,9,10,11,12],[0,1,2,3,4,5,7,8,9,12],[0,1,2,3,4,5,6,12],[0,1,2,3,4,5,6,12],[0,1,2,3,4,5,6,12],[0,1,2,3,4,5,12],[0,1,2,3,4,5,12],[0,1,2,3,4,5,6,7,8,9,10,11],[],[]]
 |17=>[[3,4,5,6,7,8],[3,4,5,6,7,8],[3,4,5,6,7,8],[0,1,2,6,7,8,9],[0,1,2,6,7,8,9],[0,1,2,6,7,8,9],[0,1,2,3,4,5,9,10],[0,1,2,3,4,5,9,10],[0,1,2,3,4,5,9,10],[3,4,5,6,7,8],[6,7,8],[]]
 |24=>[[3,4,5,6,7,8,9,10,11,12,13],[3,4,5,6,7,8,9,10,11,12,13],[3,4,5,6,7,8,9,10,11,12,13],[0,1,2,6,7,8,9,10,11,12,13],[0,1,2,6,7,8,9,10,11,12,13],[0,1,2,6,7,8,9,10,11,12,13],[0,1,2,3,4,5,7,8,9,10,11,12,13],[0,1,2,3,4,5,6,8,9,10,11,12,13],[0,1,2,3,4,5,6,7,13],[0,1,2,3,4,5,6,7,13],[0,1,2,3,4,5,6,7,13],[0,1,2,3,4,5,6,7,13],[0,1,2,3,4,5,6,7,13],[0,1,2,3,4,5,6,7,8,9,10,11,12],[],[]]
 |31=>[[3,4,5,6,7,8,9,10,11,12,13,14,15,16,17,18,19,20],[3,4,5,6,7,8,9,10,11,12,13,14,15,16,17,18,19,20],[3,4,5,6,7,8,9,10,11,12,13,14,15,16,17,18,19,20],[0,1,2,6,7,8,9,10,11,12,13,14,15,16,17,18,19,20],[0,1,2,6,7,8,9,10,11,12,13,14,15,16,17,18,19,20],[0,1,2,6,7,8,9,10,11,12,13,14,15,16,17,18,19,20],[0,1,2,3,4,5,9,10,11,12,13,14,15,16,17,18,19,20],[0,1,2,3,4,5,9,10,11,12,13,14,15,16,17,18,19,20],[0,1,2,3,4,5,9,10,11,12,13,14,15,16,17,18,19,20],[0,1,2,3,4,5,6,7,8,10,11,12,15,16,17,18,19],[0,1,2,3,4,5,6,7,8,9,15,16,17,18,19],[0,1,2,3,4,5,6,7,8,9,15,16,17,18,19],[0,1,2,3,4,5,6,7,8,9,15,16,17,18,19],[0,1,2,3,4,5,6,7,8,15,16,17,18,19],[0,1,2,3,4,5,6,7,8,15,16,17,18,19],[0,1,2,3,4,5,6,7,8,9,10,11,12,13,14,16,17,18,19,20],[0,1,2,3,4,5,6,7,8,9,10,11,12,13,14,15],[0,1,2,3,4,5,6,7,8,9,10,11,12,13,14,15],[0,1,2,3,4,5,6,7,8,9,10,11,12,13,14,15],[0,1,2,3,4,5,6,7,8,9,10,11,12,13,14,15],[0,1,2,3,4,5,6,7,8,15],[],[]]
 |38=>[[3,4,5,6,7,8,9,10,11,12,13,14,15,16,17],[3,4,5,6,7,8,9,10,11,12,13,14,15,16,17],[3,4,5,6,7,8,9,10,11,12,13,14,15,16,17],[0,1,2,6,7,8,9,10,11,12,13,14,15,16,17],[0,1,2,6,7,8,9,10,11,12,13,14,15,16,17],[0,1,2,6,7,8,9,10,11,12,13,14,15,16,17],[0,1,2,3,4,5,9,10,11,12,13,14,15,16,17],[0,1,2,3,4,5,9,10,11,12,13,14,15,16,17],[0,1,2,3,4,5,9,10,11,12,13,14,15,16,17],[0,1,2,3,4,5,6,7,8,12,13,14,15,16],[0,1,2,3,4,5,6,7,8,12,13,14,15,16],[0,1,2,3,4,5,6,7,8,12,13,14,15,16],[0,1,2,3,4,5,6,7,8,9,10,11,13,14,15,16,17],[0,1,2,3,4,5,6,7,8,9,10,11,12],[0,1,2,3,4,5,6,7,8,9,10,11,12],[0,1,2,3,4,5,6,7,8,9,10,11,12],[0,1,2,3,4,5,6,7,8,9,10,11,12],[0,1,2,3,4,5,6,7,8,12],[],[]]
 |40=>[[3,4,5,6,7,8,9,10,11,12,13,14,15,16,17,18],[3,4,5,6,7,8,9,10,11,12,13,14,15,16,17,18],[3,4,5,6,7,8,9,10,11,12,13,14,15,16,17,18],[0,1,2,14,15,16,17],[0,1,2,14,15,16,17],[0,1,2,14,15,16,17],[0,1,2,14,15,16,17],[0,1,2,14,15,16,17],[0,1,2,14,15,16,17],[0,1,2,14,15,16,17],[0,1,2,14,15,16,17],[0,1,2,14,15,16,17],[0,1,2,14,15,16,17],[0,1,2,14,15,16,17],[0,1,2,3,4,5,6,7,8,9,10,11,12,13],[0,1,2,3,4,5,6,7,8,9,10,11,12,13],[0,1,2,3,4,5,6,7,8,9,10,11,12,13],[0,1,2,3,4,5,6,7,8,9,10,11,12,13],[0,1,2],[],[]]
 |42=>[[3,4,5,6,7,8,9,10,11,12,13,14,15,16,17,18],[3,4,5,6,7,8,9,10,11,12,13,14,15,16,17,18],[3,4,5,6,7,8,9,10,11,12,13,14,15,16,17,18],[0,1,2,14,15,16,17],[0,1,2,14,15,16,17],[0,1,2,14,15,16,17],[0,1,2,14,15,16,17],[0,1,2,14,15,16,17],[0,1,2,14,15,16,17],[0,1,2,14,15,16,17],[0,1,2,14,15,16,17],[0,1,2,14,15,16,17],[0,1,2,14,15,16,17],[0,1,2,14,15,16,17],[0,1,2,3,4,5,6,7,8,9,10,11,12,13],[0,1,2,3,4,5,6,7,8,9,10,11,12,13],[0,1,2,3,4,5,6,7,8,9,10,11,12,13],[0,1,2,3,4,5,6,7,8,9,10,11,12,13],[0,1,2],[],[]]
 |44=>[[3,4,5,6,7,8,9,10,11,12,13,14,15,16,17,18,19,20,21,22],[3,4,5,6,7,8,9,10,11,12,13,14,15,16,17,18,19,20,21,22],[3,4,5,6,7,8,9,10,11,12,13,14,15,16,17,18,19,20,21,22],[0,1,2,6,7,8,9,10,11,12,13,14,15,16,17,18,19,20,21,22],[0,1,2,6,7,8,9,10,11,12,13,14,15,16,17,18,19,20,21,22],[0,1,2,6,7,8,9,10,11,12,13,14,15,16,17,18,19,20,21,22],[0,1,2,3,4,5],[0,1,2,3,4,5],[0,1,2,3,4,5],[0,1,2,3,4,5],[0,1,2,3,4,5],[0,1,2,3,4,5],[0,1,2,3,4,5],[0,1,2,3,4,5],[0,1,2,3,4,5],[0,1,2,3,4,5],[0,1,2,3,4,5],[0,1,2,3,4,5],[0,1,2,3,4,5],[0,1,2,3,4,5],[0,1,2,3,4,5],[0,1,2,3,4,5],[0,1,2,3,4,5],[],[]]
 |46=>[[3,4,5,6,7,8,9,10,11,12,13,14,15,16,17,18,19,20,21,22],[3,4,5,6,7,8,9,10,11,12,13,14,15,16,17,18,19,20,21,22],[3,4,5,6,7,8,9,10,11,12,13,14,15,16,17,18,19,20,21,22],[0,1,2,6,7,8,9,10,11,12,13,14,15,16,17,18,19,20,21,22],[0,1,2,6,7,8,9,10,11,12,13,14,15,16,17,18,19,20,21,22],[0,1,2,6,7,8,9,10,11,12,13,14,15,16,17,18,19,20,21,22],[0,1,2,3,4,5],[0,1,2,3,4,5],[0,1,2,3,4,5],[0,1,2,3,4,5],[0,1,2,3,4,5],[0,1,2,3,4,5],[0,1,2,3,4,5],[0,1,2,3,4,5],[0,1,2,3,4,5],[0,1,2,3,4,5],[0,1,2,3,4,5],[0,1,2,3,4,5],[0,1,2,3,4,5],[0,1,2,3,4,5],[0,1,2,3,4,5],[0,1,2,3,4,5],[0,1,2,3,4,5],[],[]]
 |_=>[]
def ahp:Nat→List (List Nat)
 |3=>[[4,5,6,7,8],[4,5,6,7,8],[4,5,6,7,8],[4,5,6,7,8],[0,1,2,3,5,6,7,8],[0,1,2,3,4,6,7],[0,1,2,3,4,5],[0,1,2,3,4,5],[0,1,2,3,4],[],[]]
 |6=>[[4,5,6,7,8],[4,5,6,7,8],[4,5,6,7,8],[4,5,6,7,8],[0,1,2,3,5,6,8],[0,1,2,3,4,6,8],[0,1,2,3,4,5,8],[0,1,2,3,8],[0,1,2,3,4,5,6,7],[],[]]
 |_=>[]
def ahq:Nat→List (List Nat)
 |6=>[[4,5,6,7,8,9,10,11],[4,5,6,7,8,9,10,11],[4,5,6,7,8,9,10,11],[4,5,6,7,8,9,10,11],[0,1,2,3,5,6,7,8,9,10,11],[0,1,2,3,4,6,7,8,9,10],[0,1,2,3,4,5,8],[0,1,2,3,4,5,8],[0,1,2,3,4,5,6,7],[0,1,2,3,4,5],[0,1,2,3,4,5],[0,1,2,3,4],[],[]]
 |9=>[[4,6,7,8,9,10,11,12,13,14,15,16,17],[4,6,7,8,9,10,11,12,13,14,15,16,17],[4,6,7,8,9,10,11,12,13,14,15,16,17],[4,6,7,8,9,10,11,12,13,14,15,16,17],[0,1,2,3,6,7,8,9,10,11,12,13,14,15,16,17],[6,7,8,9,10,11,12,13,14,15,16,17],[0,1,2,3,4,5,8,9,10,11,12,13,14,15,16],[0,1,2,3,4,5,8,9,10,11,12,13,14,15,16],[0,1,2,3,4,5,6,7,12,13,14,15],[0,1,2,3,4,5,6,7,12,13,14,15],[0,1,2,3,4,5,6,7,12,13,14,15],[0,1,2,3,4,5,6,7,12,13,14,15],[0,1,2,3,4,5,6,7,8,9,10,11,13,14,15],[0,1,2,3,4,5,6,7,8,9,10,11,12,14],[0,1,2,3,4,5,6,7,8,9,10,11,12,13],[0,1,2,3,4,5,6,7,8,9,10,11,12],[0,1,2,3,4,5,6,7],[0,1,2,3,4,5],[]]
 |_=>[]
def ahr:Nat→List (List Nat)
 |6=>[[2,5,6,7,8,9],[2,5,6,7,8,9],[0,1,5,6,7,8,9],[5,6,7,8,9],[5,6,7,8,9],[0,1,2,3,4,7,10],[0,1,2,3,4,7,10],[0,1,2,3,4,5,6,10],[0,1,2,3,4,10],[0,1,2,3,4,10],[5,6,7,8,9],[],[]]
 |_=>[]
def ahs:Nat→List (List Nat)
 |10=>[[1,4,5,6],[0,4,5,6],[4,5,6],[4,5,6],[0,1,2,3,6],[0,1,2,3,6],[0,1,2,3,4,5],[],[],[]]
 |_=>[]
def aht:Nat→List (List Nat)
 |9=>[[1,3,4,5,6],[0,3,4,5,6],[3,4,5,6],[0,1,2,4,7],[0,1,2,3,7],[0,1,2,7],[0,1,2,7],[3,4,5,6],[],[]]
 |_=>[]
def ahu:Nat→List (List Nat)
 |2=>[[2,3],[2,3],[0,1,4],[0,1,4],[2,3],[]]
 |_=>[]
def ahv:Nat→List (List Nat)
 |17=>[[3,4,5],[3,4,5],[3,4,5],[0,1,2,6],[0,1,2,6],[0,1,2,6],[3,4,5],[]]
 |_=>[]
def ahw:Nat→List (List Nat)
 |18=>[[5,6],[5,6],[5,6],[5,6],[5,6],[0,1,2,3,4],[0,1,2,3,4],[]]
 |_=>[]
def ahx:Nat→List (List Nat)
 |0=>[[3,4,5],[3,4,5],[3,4,5],[0,1,2],[0,1,2],[0,1,2],[]]
 |_=>[]
def ahy:Nat→List (List Nat)
 |2=>[[4,7,8,9,10,11,12,13,14],[4,7,8,9,10,11,12,13,14],[4,7,8,9,10,11,12,13,14],[4,7,8,9,10,11,12,13,14],[0,1,2,3,7,8,9,10,11,12,13,14],[7,8,9,10,11,12,13,14],[7,8,9,10,11,12,13,14],[0,1,2,3,4,5,6,12,15],[0,1,2,3,4,5,6,12,15],[0,1,2,3,4,5,6,12,15],[0,1,2,3,4,5,6,12,15],[0,1,2,3,4,5,6,12,15],[0,1,2,3,4,5,6,7,8,9,10,11,15],[0,1,2,3,4,5,6,15],[0,1,2,3,4,5,6,15],[7,8,9,10,11,12,13,14],[]]
 |_=>[]
def ahz:Nat→List (List Nat)
 |3=>[[4,7,9,10,11,12,13,14,15,16,17,18],[4,7,9,10,11,12,13,14,15,16,17,18],[4,7,9,10,11,12,13,14,15,16,17,18],[4,7,9,10,11,12,13,14,15,16,17,18],[0,1,2,3,7,9,10,11,12,13,14,15,16,17,18],[7,9,10,11,12,13,14,15,16,17,18],[7,9,10,11,12,13,14,15,16,17,18],[0,1,2,3,4,5,6,9,10,11,12,13,14,15,16,17,18],[9,10,11,12,13,14,15,16,17,18],[0,1,2,3,4,5,6,7,8,13,16,19],[0,1,2,3,4,5,6,7,8,13,16,19],[0,1,2,3,4,5,6,7,8,13,16,19],[0,1,2,3,4,5,6,7,8,13,16,19],[0,1,2,3,4,5,6,7,8,9,10,11,12,16,19],[0,1,2,3,4,5,6,7,8,16,19],[0,1,2,3,4,5,6,7,8,16,19],[0,1,2,3,4,5,6,7,8,9,10,11,12,13,14,15,19],[0,1,2,3,4,5,6,7,8,19],[0,1,2,3,4,5,6,7,8,19],[9,10,11,12,13,14,15,16,17,18],[]]
 |_=>[]
def ahA:Nat→List (List Nat)
 |5=>[[4,5,6],[4,5,6],[4,5,6],[4,5,6],[0,1,2,3,7],[0,1,2,3,7],[0,1,2,3,7],[4,5,6],[]]
 |8=>[[4,5,11],[4,5,11],[4,5,11],[4,5,11],[0,1,2,3,11],[0,1,2,3,11],[11],[11],[9,10,11],[8,10,11,12],[8,9,11,12,13],[0,1,2,3,4,5,6,7,8,9,10],[9,10],[10],[]]
 |11=>[[4,5,6,7,13],[4,5,6,7,13],[4,5,6,7,13],[4,5,6,7,13],[0,1,2,3,6,7,13],[0,1,2,3,6,7,13],[0,1,2,3,4,5,13],[0,1,2,3,4,5,13],[13],[13],[11,12,13],[10,12,13,14],[10,11,13,14,15],[0,1,2,3,4,5,6,7,8,9,10,11,12],[11,12],[12],[]]
 |12=>[[1,2],[0,3],[0,3],[1,2],[]]
 |15=>[[4,5,11],[4,5,11],[4,5,11],[4,5,11],[0,1,2,3,11],[0,1,2,3,11],[11],[11],[9,10,11],[8,10,11,12],[8,9,11,12,13],[0,1,2,3,4,5,6,7,8,9,10],[9,10],[10],[]]
 |17=>[[1,2,3,4,5,6,7,8,9,10,13,14,15],[0,4,5,6,7,8,13,14,15],[0,4,5,6,7,8,13,14,15],[0,4,5,6,7,8,13,14,15],[0,1,2,3,5,6,7,8,13,14,15],[0,1,2,3,4,7,8,13,14,15],[0,1,2,3,4,7,8,13,14,15],[0,1,2,3,4,5,6,13,14,15],[0,1,2,3,4,5,6,13,14,15],[0,13,14,15],[0,13,14,15],[13,14,15],[13,14,15],[0,1,2,3,4,5,6,7,8,9,10,11,12,16],[0,1,2,3,4,5,6,7,8,9,10,11,12,16],[0,1,2,3,4,5,6,7,8,9,10,11,12,16],[13,14,15],[]]
 |29=>[[1,2,5,6,7],[0,5,6,7],[0,5,6,7],[5,6,7],[5,6,7],[0,1,2,3,4],[0,1,2,3,4],[0,1,2,3,4],[],[13],[13],[13],[13],[9,10,11,12],[]]
 |_=>[]
def ahB:Nat→List (List Nat)
 |4=>[[1,2,7,8],[0,7,8],[0,7,8],[7,8],[7,8],[6,7,8],[5,7,8,9],[0,1,2,3,4,5,6,8],[0,1,2,3,4,5,6,7],[6],[]]
 |_=>[]
def ahC:Nat→List (List Nat)
 |4=>[[1,2,4,6,7],[0,4,6,7],[0,4,6,7],[4,6,7],[0,1,2,3,6,7],[6,7],[0,1,2,3,4,5],[0,1,2,3,4,5],[]]
 |_=>[]
def ahD:Nat→List (List Nat)
 |1=>[[1,4,5],[0,4,5],[4,5],[4,5],[0,1,2,3],[0,1,2,3],[]]
 |_=>[]
def ahE:Nat→List (List Nat)
 |1=>[[1,4,5],[0,4,5],[4,5],[4,5],[0,1,2,3],[0,1,2,3],[]]
 |_=>[]
def ahF:Nat→List (List Nat)
 |2=>[[2,3],[2,3],[0,1],[0,1],[]]
 |8=>[[2,4,7,8],[2,4,7,8],[0,1,4,7,8],[4,7,8],[0,1,2,3,7,8],[7,8],[7,8],[0,1,2,3,4,5,6],[0,1,2,3,4,5,6],[]]
 |9=>[[1,2,3,4,5,7,8,10,11,12,13,14,15],[0,3,7,8,10,11,12,13,14,15],[0,3,7,8,10,11,12,13,14,15],[0,1,2,7,8,10,11,12,13,14,15],[0,7,8,10,11,12,13,14,15],[0,7,8,10,11,12,13,14,15],[7,8,10,11,12,13,14,15],[0,1,2,3,4,5,6,10,11,12,13,14,15],[0,1,2,3,4,5,6,10,11,12,13,14,15],[10,11,12,13,14,15],[0,1,2,3,4,5,6,7,8,9,12],[0,1,2,3,4,5,6,7,8,9,12],[0,1,2,3,4,5,6,7,8,9,10,11],[0,1,2,3,4,5,6,7,8,9],[0,1,2,3,4,5,6,7,8,9],[0,1,2,3,4,5,6,7,8,9],[]]
 |_=>[]
def ahG:Nat→List (List Nat)
 |8=>[[1,2,3,5,6,7],[0,2,3,5,6,7],[0,1,5,6,7],[0,1,5,6,7],[5,6,7],[0,1,2,3,4,8],[0,1,2,3,4,8],[0,1,2,3,4,8],[5,6,7],[]]
 |12=>[[1,2,3,4,5,6,8,9,10],[0,2,3,5,6,8,9,10],[0,1,3,5,6,8,9,10],[0,1,2,5,6,8,9,10],[0,5,6,8,9,10],[0,1,2,3,4,8,9,10],[0,1,2,3,4,8,9,10],[8,9,10],[0,1,2,3,4,5,6,7,11],[0,1,2,3,4,5,6,7,11],[0,1,2,3,4,5,6,7,11],[8,9,10],[]]
 |15=>[[1,2,3,5,6,7],[0,2,3,5,6,7],[0,1,5,6,7],[0,1,5,6,7],[5,6,7],[0,1,2,3,4,8],[0,1,2,3,4,8],[0,1,2,3,4,8],[5,6,7],[]]
 |_=>[]
def ahH:Nat→List (List Nat)
 |8=>[[1,4,5,6,7],[0,4,5,6,7],[4,5,6,7],[4,5,6,7],[0,1,2,3,5],[0,1,2,3,4],[0,1,2,3],[0,1,2,3],[],[]]
 |_=>[]
def ahI:Nat→List (List Nat)
 |13=>[[1],[0,2],[1],[]]
 |_=>[]
def ahJ:Nat→List (List Nat)
 |5=>[[8,9],[8,9],[8,9],[8,9],[8,9],[8,9],[8,9],[8,9],[0,1,2,3,4,5,6,7],[0,1,2,3,4,5,6,7],[]]
 |_=>[]
def ahK:Nat→List (List Nat)
 |6=>[[1,2,3,4,5,6,7],[0,2,3,4,5,7],[0,1,4,5,7],[0,1,4,5,7],[0,1,2,3,7],[0,1,2,3,7],[0,7],[0,1,2,3,4,5,6],[],[]]
 |10=>[[2,3],[2,3],[0,1],[0,1],[]]
 |12=>[[2,3],[2,3],[0,1],[0,1],[]]
 |15=>[[1,2,3,5,6],[0,5,6],[0,5,6],[0,5,6],[5,6],[0,1,2,3,4],[0,1,2,3,4],[]]
 |17=>[[2,3],[2,3],[0,1],[0,1],[]]
 |_=>[]
def ahL:Nat→List (List Nat)
 |5=>[[1,4,5,6,7,9],[0,4,5,6,7,9],[4,5,6,7,9],[4,5,6,7,9],[0,1,2,3,5,9],[0,1,2,3,4,9],[0,1,2,3,9],[0,1,2,3,9],[9],[0,1,2,3,4,5,6,7,8],[],[]]
 |_=>[]
def ahM:Nat→List (List Nat)
 |4=>[[1,4,5,6,7],[0,4,5,6,7],[4,5,6,7],[4,5,6,7],[0,1,2,3,5],[0,1,2,3,4],[0,1,2,3],[0,1,2,3],[]]
 |6=>[[1,4,5,6,7],[0,4,5,6,7],[4,5,6,7],[4,5,6,7],[0,1,2,3,5],[0,1,2,3,4],[0,1,2,3],[0,1,2,3],[]]
 |_=>[]
def ahN:Nat→List (List Nat)
 |5=>[[1,5,6,7,8,10],[0,5,6,7,8,10],[5,6,7,8,10],[5,6,7,8,10],[5,6,7,8,10],[0,1,2,3,4,6,10],[0,1,2,3,4,5,10],[0,1,2,3,4,10],[0,1,2,3,4,10],[10],[0,1,2,3,4,5,6,7,8,9],[],[]]
 |_=>[]
def ahO:Nat→List (List Nat)
 |2=>[[2,3],[2,3],[0,1],[0,1],[]]
 |_=>[]
end Go.Am
end
