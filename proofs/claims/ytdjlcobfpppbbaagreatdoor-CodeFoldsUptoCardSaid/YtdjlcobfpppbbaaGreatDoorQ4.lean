/-
  Texts of one proof, one behind the other.
-/
import Derived.Test.YtdjlcobfpppbbaaGreatDoorQ3
import Derived.Laws.BitsLemmas
import Derived.Laws.Bits64
import Derived.Lib.Mul64
import Derived.Lib.Bytealg
import Derived.Lib.Index
import Derived.Lib.Strings
import Derived.Test.YtdjlcobfpppbbaaGreatDoorProg
import Derived.KernelRfl
set_option linter.all false
section
namespace Go.Am
open Go
attribute [simp] stepv.eq_1
attribute [simp] opOk.eq_1
attribute [simp] okAll.eq_1 okAll.eq_2
attribute [simp] Go.Op.operands.eq_1 Go.Op.operands.eq_2 Go.Op.operands.eq_3 Go.Op.operands.eq_4 Go.Op.operands.eq_5 Go.Op.operands.eq_6 Go.Op.operands.eq_7 Go.Op.operands.eq_8 Go.Op.operands.eq_9 Go.Op.operands.eq_10 Go.Op.operands.eq_11 Go.Op.operands.eq_12 Go.Op.operands.eq_13 Go.Op.operands.eq_14 Go.Op.operands.eq_15 Go.Op.operands.eq_16 Go.Op.operands.eq_17 Go.Op.operands.eq_18 Go.Op.operands.eq_19 Go.Op.operands.eq_20 Go.Op.operands.eq_21 Go.Op.operands.eq_22 Go.Op.operands.eq_23 Go.Op.operands.eq_24 Go.Op.operands.eq_25 Go.Op.operands.eq_26 Go.Op.operands.eq_27 Go.Op.operands.eq_28 Go.Op.operands.eq_29 Go.Op.operands.eq_30 Go.Op.operands.eq_31 Go.Op.operands.eq_32 Go.Op.operands.eq_33 Go.Op.operands.eq_34 Go.Op.operands.eq_35 Go.Op.operands.eq_36 Go.Op.operands.eq_37 Go.Op.operands.eq_38 Go.Op.operands.eq_39 Go.Op.operands.eq_40 Go.Op.operands.eq_41 Go.Op.operands.eq_42 Go.Op.operands.eq_43
attribute [simp] St.opd.eq_1 St.opd.eq_2 St.opd.eq_3 St.opd.eq_4
attribute [simp] Env.lk.eq_1 Env.lk.eq_2
attribute [simp] St.put.eq_1 St.put.eq_2
attribute [simp] Mem.get.eq_1 Mem.get.eq_2
attribute [simp] Mem.set.eq_1 Mem.set.eq_2
attribute [simp] AV.solid.eq_1 AV.solid.eq_2 AV.solid.eq_3
attribute [simp] constAV.eq_1 constAV.eq_2 constAV.eq_3 constAV.eq_4 constAV.eq_5 constAV.eq_6
attribute [simp] AV.cells.eq_1 AV.cells.eq_2 AV.cells.eq_3
attribute [simp] loadR.eq_1 loadR.eq_2 loadR.eq_3 loadR.eq_4 loadR.eq_5
attribute [simp] storeR.eq_1 storeR.eq_2 storeR.eq_3
attribute [simp] fieldRm.eq_1 nilCheckR.eq_1 nilCheckR.eq_2 nilCheckR.eq_3
attribute [simp] indexR.eq_1 indexR.eq_2
attribute [simp] binOpR.eq_1 binOpR.eq_2 binOpR.eq_3 binOpR.eq_4
attribute [simp] isNilV.eq_1 isNilV.eq_2 isNilV.eq_3 isNilV.eq_4
attribute [simp] binR.eq_1 binR.eq_2 binR.eq_3 binR.eq_4 binR.eq_5 binR.eq_6 binR.eq_7 binR.eq_8 binR.eq_9
attribute [simp] intBin.eq_1 intBin.eq_2 intBin.eq_3 intBin.eq_4 intBin.eq_5 intBin.eq_6 intBin.eq_7 intBin.eq_8 intBin.eq_9 intBin.eq_10 intBin.eq_11 intBin.eq_12 intBin.eq_13 intBin.eq_14 intBin.eq_15 intBin.eq_16
attribute [simp] strBin.eq_1 strBin.eq_2 strBin.eq_3 strBin.eq_4 strBin.eq_5 strBin.eq_6 strBin.eq_7 strBin.eq_8
attribute [simp] pickR.eq_1
attribute [simp] pickAV.eq_1 pickAV.eq_2
attribute [simp] pickD.eq_1 pickD.eq_2
attribute [simp] grd.eq_1
attribute [simp] mkAgg.eq_1
def Ov{α:Type}(y:α):Option (List α)→Option (List α)
 |some ys=>some (y::ys)
 |none=>none
@[simp] theorem afW{α:Type}(y:α)(ys:List α):Ov y (some ys)=some (y::ys):=rfl
@[simp] theorem afX{α:Type}(y:α):Ov y none=none:=rfl
@[simp] theorem akZ:gg []=some []:=rfl
@[simp] theorem arW(y r):gg (.d y::r)=Ov y (gg r):=by
 cases h:gg r with
 |none=>exact gg.eq_3 _ _ (fun _ _ _ h2=>by rw[h]at h2;cases h2)
 |some ys=>exact gg.eq_2 _ _ _ h
@[simp] theorem ak0(a b c d r):gg (.vec a b c d::r)=none:=by rw[gg.eq_def]
@[simp] theorem ak1(a b c r):gg (.ptr a b c::r)=none:=by rw[gg.eq_def]
@[simp] theorem ak2(a r):gg (.lit a::r)=none:=by rw[gg.eq_def]
@[simp] theorem aph(a b r):gg (.fn a b::r)=none:=by rw[gg.eq_def]
@[simp] theorem api(r):gg (.nn::r)=none:=by rw[gg.eq_def]
@[simp] theorem ai9(r):gg (.aZ::r)=none:=by rw[gg.eq_def]
attribute [simp] moveR.eq_1 moveR.eq_2
attribute [simp] unR.eq_1 unR.eq_2 unR.eq_3 unR.eq_4
attribute [simp] builtinR.eq_1 builtinR.eq_2 builtinR.eq_3 builtinR.eq_4 builtinR.eq_5 builtinR.eq_6 capR.eq_1
attribute [simp] lenRm.eq_1 lenRm.eq_2 lenRm.eq_3 lenRm.eq_4 lenRm.eq_5
attribute [simp] appR.eq_1
attribute [simp] appSrc.eq_1 appN.eq_1 appN.eq_2 appS.eq_1 appS.eq_2
attribute [simp] fzRes.eq_1 fzRes.eq_2
attribute [simp] srcRows.eq_1 srcRows.eq_2 srcRows.eq_3 srcRows.eq_4 srcRows.eq_5
attribute [simp] makeR.eq_1
attribute [simp] copyR.eq_1
attribute [simp] maxR.eq_1 maxR.eq_2
attribute [simp] foldMax.eq_1 foldMax.eq_2 foldMax.eq_3 foldMax.eq_4
attribute [simp] buildR.eq_1
attribute [simp] fillA.eq_1 fillA.eq_2
attribute [simp] buildSliceR.eq_1
attribute [simp] partDs.eq_1 partDs.eq_2
attribute [simp] convM.eq_1 convM.eq_2
attribute [simp] convR.eq_1 convR.eq_2 convR.eq_3 convR.eq_4 convR.eq_5 convR.eq_6
attribute [simp] makeIfaceR.eq_1
attribute [simp] makeFuncR.eq_1 makeFuncR.eq_2 makeFuncR.eq_3
attribute [simp] extractR.eq_1 extractR.eq_2 fieldVR.eq_1 fieldVR.eq_2 assertR.eq_1
attribute [simp] indexVR.eq_1 indexVR.eq_2 indexVR.eq_3 indexVR.eq_4
attribute [simp] sliceR.eq_1 sliceR.eq_2 sliceR.eq_3 sliceR.eq_4 sliceR.eq_5
attribute [simp] bound.eq_1 bound.eq_2 bound.eq_3
attribute [simp] putCells.eq_1 putCells.eq_2
attribute [simp] nilR.eq_1 nilR.eq_2 nilR.eq_3 nilR.eq_4 nilR.eq_5 nilR.eq_6 nilR.eq_7 nilR.eq_8 nilR.eq_9 nilR.eq_10 nilR.eq_11 nilR.eq_12
attribute [simp] D.cells.eq_1 D.cells.eq_2
attribute [simp] D.size.eq_1 D.size.eq_2
attribute [simp] D.flat.eq_1 D.flat.eq_2
attribute [simp] callVal.eq_1 callVal.eq_2
attribute [simp] argVals.eq_1 argVals.eq_2 fnId.eq_1 fnArgs.eq_1 fnIdN.eq_1 fnArgsN.eq_1 bnB.eq_1
attribute [simp] collect.eq_1 collect.eq_2 collect.eq_3
attribute [simp] argKeys.eq_1 argKeys.eq_2
attribute [simp] argBor.eq_1 argBor.eq_2
attribute [simp] avKeys.eq_1 avKeys.eq_2 avKeys.eq_3 avKeys.eq_4 avKeys.eq_5 avKeys.eq_6 avKeys.eq_7 avKeys.eq_8 avKeys.eq_9 avKeys.eq_10 avKeys.eq_11 avKeys.eq_12
attribute [simp] ptrKeys.eq_1 ptrKeys.eq_2 ptrKeys.eq_3 ptrKeys.eq_4 ptrKeys.eq_5 ptrKeys.eq_6 ptrKeys.eq_7
attribute [simp] vecKeys.eq_1 vecKeys.eq_2 vecKeys.eq_3 vecKeys.eq_4
attribute [simp] contKeys.eq_1 contKeys.eq_2
attribute [simp] vwArgs.eq_1 vwArgs.eq_2 nrm.eq_1 nrm.eq_2
attribute [simp] conts.eq_1 conts.eq_2
attribute [simp] selC.eq_1 selC.eq_2 selC.eq_3
attribute [simp] selE.eq_1 selE.eq_2
attribute [simp] findK.eq_1 findK.eq_2
attribute [simp] callBack.eq_1 callBack.eq_2
attribute [simp] frOk.eq_1 frOk.eq_2
attribute [simp] plainO.eq_1 plainO.eq_2
attribute [simp] plainL.eq_1 plainL.eq_2 plainL.eq_1 plainL.eq_2
attribute [simp] plainC.eq_1 plainC.eq_2 plainC.eq_3
attribute [simp] plainAV.eq_1 plainAV.eq_2 plainAV.eq_3 plainAV.eq_4 plainAV.eq_5 plainAV.eq_6 plainAV.eq_7 plainAV.eq_8 plainAV.eq_9 plainAV.eq_10 plainAV.eq_11 plainAV.eq_12
attribute [simp] plainD.eq_1 plainD.eq_2 plainD.eq_3 plainD.eq_4 plainD.eq_5 plainD.eq_6
attribute [simp] upO.eq_1 upO.eq_2
attribute [simp] up.eq_1 up.eq_2 up.eq_3 up.eq_4 up.eq_5 up.eq_6 up.eq_7 up.eq_8 up.eq_9 up.eq_10 up.eq_11 up.eq_12
attribute [simp] upC.eq_1 upC.eq_2 upC.eq_3
attribute [simp] backL.eq_1 backL.eq_2
attribute [simp] base.eq_1 base.eq_2
attribute [simp] putAll.eq_1 putAll.eq_2
attribute [simp] ghs.eq_1 ghs.eq_2
attribute [simp] Gh.go.eq_1 Gh.go.eq_2 Gh.go.eq_3 Gh.go.eq_4
attribute [simp] St.rekey.eq_1 rkAV.eq_1 rkAV.eq_2 mapB.eq_1 mapB.eq_2 boxD.eq_1 boxD.eq_2 flats.eq_1 flats.eq_2
attribute [simp] finish.eq_1
attribute [simp] resAll.eq_1 resAll.eq_2
attribute [simp] resOne.eq_1 resOne.eq_2
attribute [simp] finKeys.eq_1
attribute [simp] St.trim1.eq_1
attribute [simp] refMem.eq_1 refMem.eq_2 refMem.eq_3
attribute [simp] refEnv.eq_1 refEnv.eq_2
attribute [simp] refAV.eq_1 refAV.eq_2 refAV.eq_3 refAV.eq_4 refAV.eq_5 refAV.eq_6 refAV.eq_7 refAV.eq_8 refAV.eq_9 refAV.eq_10 refAV.eq_11 refAV.eq_12
attribute [simp] St.trim.eq_1
attribute [simp] mapEnv.eq_1 mapEnv.eq_2
attribute [simp] mapM.eq_1 mapM.eq_2
attribute [simp] mapC.eq_1 mapC.eq_2 mapC.eq_3
attribute [simp] trAV.eq_1 trAV.eq_2 trAV.eq_3 trAV.eq_4 trAV.eq_5 trAV.eq_6 trAV.eq_7 trAV.eq_8 trAV.eq_9 trAV.eq_10 trAV.eq_11 trAV.eq_12
attribute [simp] envVals.eq_1 envVals.eq_2
attribute [simp] oneOf.eq_1 oneOf.eq_2
attribute [simp] AV.norm.eq_1 AV.norm.eq_2 AV.norm.eq_3 AV.norm.eq_4
attribute [simp] toD1.eq_1 toD1.eq_2 toD1.eq_3 toD1.eq_4
attribute [simp] toDsN.eq_1 toDsN.eq_2
attribute [simp] vw.eq_1 vw.eq_2 vw.eq_3 vw.eq_4 vw.eq_5 vw.eq_6 vw.eq_7 vw.eq_8 vw.eq_9 vw.eq_10 vw.eq_11 vw.eq_12
attribute [simp] selL.eq_1 selL.eq_2
attribute [simp] TK.agg.eq_1 TK.agg.eq_2 TK.agg.eq_3
attribute [simp] stepK.eq_1 stepK.eq_2 stepK.eq_3
attribute [simp] guardK.eq_1 guardK.eq_2 guardK.eq_3
attribute [simp] grdK.eq_1 grdK.eq_2 grdK.eq_3
attribute [simp] specK.eq_1 specK.eq_2 specK.eq_3
attribute [simp] callK.eq_1 callK.eq_2 callK.eq_3
attribute [simp] panicK.eq_1 panicK.eq_2
attribute [simp] isB.eq_1 isB.eq_2
attribute [simp] boolOf.eq_1 boolOf.eq_2
attribute [simp] boxR.eq_1
attribute [simp] allocR.eq_1 arrR.eq_1 isZ.eq_1 isZ.eq_2 zeroOf.eq_1 zeroOf.eq_2 zeroOf.eq_3
attribute [simp] St.trims.eq_1 St.trims.eq_2
attribute [simp] vws.eq_1 vws.eq_2
attribute [simp] plainAVs.eq_1 plainAVs.eq_2
attribute [simp] plainDs.eq_1 plainDs.eq_2
attribute [simp] ups.eq_1 ups.eq_2
attribute [simp] refAVs.eq_1 refAVs.eq_2
attribute [simp] trAVs.eq_1 trAVs.eq_2
attribute [simp] avsKeys.eq_1 avsKeys.eq_2
attribute [simp] ptrsKeys.eq_1 ptrsKeys.eq_2
attribute [simp] vecsKeys.eq_1 vecsKeys.eq_2
attribute [simp] entryEnv.eq_1 entryEnv.eq_2
attribute [simp] inM.eq_1 inM.eq_2
attribute [simp] runSplit.eq_1 runSplit.eq_2 runSplit.eq_3
attribute [simp] emptyVec.eq_1 emptyVec.eq_2
attribute [simp] splitRun.eq_1
attribute [simp] touch.eq_1 topsOf.eq_1 topsOf.eq_2 topsOf.eq_3
attribute [simp] keysTop.eq_1 keysTop.eq_2
attribute [simp] keyTop.eq_1 keyTop.eq_2 keyTop.eq_3 keyTop.eq_4
attribute [simp] dstepK.eq_1 dstepK.eq_2 dstepK.eq_3
attribute [simp] dguardK.eq_1 dguardK.eq_2 dguardK.eq_3
attribute [simp] dgrdK.eq_1 dgrdK.eq_2 dgrdK.eq_3
attribute [simp] dspecK.eq_1 dspecK.eq_2 dstepG.eq_1 dstepG.eq_2 dstepG.eq_3 dspecG.eq_1 dspecG.eq_2 dcallG.eq_1 dcallG.eq_2
attribute [simp] dcallK.eq_1 dcallK.eq_2 dcallK.eq_3
attribute [simp] fzAV.eq_1 fzAV.eq_2 fzAV.eq_3 fzAV.eq_4 fzAV.eq_5 fzAV.eq_6 fzAV.eq_7 fzAV.eq_8 fzAV.eq_9 fzAV.eq_10 fzAV.eq_11 fzAV.eq_12
attribute [simp] fzAVs.eq_1 fzAVs.eq_2
attribute [simp] St.freeze.eq_1
attribute [simp] St.adopt.eq_1
attribute [simp] Go.Call.operands.eq_1
attribute [simp] D.isByte.eq_1 D.isByte.eq_2
attribute [simp] eqFlat.eq_1 eqFlat.eq_2 eqFlat.eq_3 eqFlat.eq_4
attribute [simp] eqFlats.eq_1 eqFlats.eq_2 eqFlats.eq_3
attribute [simp] glk.eq_1 glk.eq_2
attribute [simp] denK_skip denK_exit denK_ret denK_seq denK_block denK_condT denK_condC denK_region denK_draw drwKA_n seqK_n seqK_x seqK_r seqK_p blkK_n blkK_x blkK_r blkK_p loopK_n loopK_x loopK_r loopK_p leaveK_n leaveK_p finK_n finK_r finK_p runK_nil runK_cons runK_guard callK_ite callBack_ite drwK_cons drwK_guard dcallK_ite dcallG_ite
attribute [simp] frzO.eq_1 frzO.eq_2 frzR.eq_1 frzR.eq_2 mkM.eq_1 mkM.eq_2
attribute [simp] forkK.eq_1 forkK.eq_2
attribute [simp] dforkK.eq_1 dforkK.eq_2
attribute [simp] gdst.eq_1
attribute [simp] Env.kn.eq_1 Env.kn.eq_2 St.kn.eq_1
attribute [simp] ordD.eq_1 ordL.eq_1 ordL.eq_2 ordL.eq_3 ordE.eq_1 ordE.eq_2 ordK.eq_1 ordK.eq_2 revA.eq_1 revA.eq_2 disj.eq_1
attribute [simp] orcAns.eq_1 orcAns.eq_2 liftO.eq_1
@[simp] theorem arX(t:Bool):nZ (some (true,.d (.bool t)))=.qE t:=rfl
@[simp] theorem arY:nZ (some (true,.aU []))=.skip:=rfl
attribute [simp] dstAt.eq_1
attribute [simp] St.cz St.prune keyOf St.leave finVals finTrim finOut St.mapAll nvX nv0 callOk entry dead callOp callOp2 callOp3 D.at D.cell D.setCells finPanic
@[simp] theorem afY(m ρ bor nv):∀ds:List D,vws m ρ bor nv (ds.map .d)=ds.map .d
 |[]=>rfl
 |d::r=>by simp[afY m ρ bor nv r]
@[simp] theorem afZ(ρ bs):∀ds:List D,ups ρ bs (ds.map .d)=ds.map .d
 |[]=>rfl
 |d::r=>by simp[afZ ρ bs r]
@[simp] theorem Rs:∀ds:List D,avsKeys (ds.map .d)=[]
 |[]=>rfl
 |d::r=>by simp[Rs r]
@[simp] theorem UD(k v):∀ds:List D,refAVs k v (ds.map .d)=none
 |[]=>rfl
 |d::r=>by simp[UD k v r]
@[simp] theorem Zs(k v o l):∀ds:List D,trAVs k v o l (ds.map .d)=ds.map .d
 |[]=>rfl
 |d::r=>by simp[Zs k v o l r]
@[simp] theorem Ow:∀ds:List D,plainAVs (ds.map .d)=plainDs ds
 |[]=>rfl
 |d::r=>by simp[Ow r]
attribute [simp] List.take_of_length_le
@[simp] def Code.at:Code→List Nat→Code
 |c,[]=>c
 | .seq a b,i::p=>if i=0 then Code.at a p else Code.at b p
 | .cond _ a b,i::p=>if i=0 then Code.at a p else Code.at b p
 | .block _ c,_::p=>Code.at c p
 | .loop c,_::p=>Code.at c p
 |c,_=>c
@[simp] theorem apj:List.range 2=[0,1]:=rfl
@[simp] theorem apk:List.range 3=[0,1,2]:=rfl
@[simp] theorem apl:List.range 4=[0,1,2,3]:=rfl
@[simp] theorem apm:List.range 5=[0,1,2,3,4]:=rfl
@[simp] theorem apn:List.range 6=[0,1,2,3,4,5]:=rfl
@[simp] theorem apo(a b:Int):(a == b)=decide (a=b):=by by_cases h:a=b<;>simp[h]
def aY(n:Int):Prop:= -9223372036854775808≤n∧n≤9223372036854775807
theorem aw{n:Int}(h:aY n):IntKind.i64.wrap n=n:=IntWalk.i64_in _ (by unfold aY at h;omega)
def q1(m:Nat):Nat:=m/4294967296%4294967296
def q2(m:Nat):Nat:=m/18446744073709551616%4294967296
def q3(m:Nat):Nat:=m/79228162514264337593543950336%4294967296
def q0(m:Nat):Nat:=m%4294967296
def kG(z:Int):Int×Bool:=if-9223372036854775808≤z∧z≤9223372036854775807 then (z,true)else (0,false)
def yh(a b:Int):Int×Int:=if b=0 then (0,3)else if a= -9223372036854775808∧b= -1 then (0,2)else (a.tdiv b,0)
def AK(a b:Int):Int×Int:=if b=0 then (0,3)else (a.tmod b,0)
theorem Hd(a b:Int):a.tdiv b=(if decide (a<0)=decide (b<0)then ((a.natAbs/b.natAbs:Nat):Int)else-((a.natAbs/b.natAbs:Nat):Int)):=by
 rcases Int.lt_or_le a 0 with ha|ha<;>rcases Int.lt_or_le b 0 with hb|hb
 ·rw[if_pos (by simp[ha,hb])];obtain⟨m,rfl⟩:∃m:Nat,a= -(m:Int):=⟨a.natAbs,by omega⟩;obtain⟨n,rfl⟩:∃n:Nat,b= -(n:Int):=⟨b.natAbs,by omega⟩;simp[Int.neg_tdiv,Int.tdiv_neg]
 ·rw[if_neg (by simp[ha];omega)];obtain⟨m,rfl⟩:∃m:Nat,a= -(m:Int):=⟨a.natAbs,by omega⟩;obtain⟨n,rfl⟩:∃n:Nat,b=(n:Int):=⟨b.natAbs,by omega⟩;simp[Int.neg_tdiv]
 ·rw[if_neg (by simp[hb];omega)];obtain⟨m,rfl⟩:∃m:Nat,a=(m:Int):=⟨a.natAbs,by omega⟩;obtain⟨n,rfl⟩:∃n:Nat,b= -(n:Int):=⟨b.natAbs,by omega⟩;simp[Int.tdiv_neg]
 ·rw[if_pos (by simp;omega)];obtain⟨m,rfl⟩:∃m:Nat,a=(m:Int):=⟨a.natAbs,by omega⟩;obtain⟨n,rfl⟩:∃n:Nat,b=(n:Int):=⟨b.natAbs,by omega⟩;simp
theorem Zt(a b:Int):a*b=(if decide (a<0)=decide (b<0)then ((a.natAbs*b.natAbs:Nat):Int)else-((a.natAbs*b.natAbs:Nat):Int)):=by
 rcases Int.lt_or_le a 0 with ha|ha<;>rcases Int.lt_or_le b 0 with hb|hb
 ·rw[if_pos (by simp[ha,hb])];obtain⟨m,rfl⟩:∃m:Nat,a= -(m:Int):=⟨a.natAbs,by omega⟩;obtain⟨n,rfl⟩:∃n:Nat,b= -(n:Int):=⟨b.natAbs,by omega⟩;simp[Int.neg_mul,Int.mul_neg]
 ·rw[if_neg (by simp[ha];omega)];obtain⟨m,rfl⟩:∃m:Nat,a= -(m:Int):=⟨a.natAbs,by omega⟩;obtain⟨n,rfl⟩:∃n:Nat,b=(n:Int):=⟨b.natAbs,by omega⟩;simp[Int.neg_mul]
 ·rw[if_neg (by simp[hb];omega)];obtain⟨m,rfl⟩:∃m:Nat,a=(m:Int):=⟨a.natAbs,by omega⟩;obtain⟨n,rfl⟩:∃n:Nat,b= -(n:Int):=⟨b.natAbs,by omega⟩;simp[Int.mul_neg]
 ·rw[if_pos (by simp;omega)];obtain⟨m,rfl⟩:∃m:Nat,a=(m:Int):=⟨a.natAbs,by omega⟩;obtain⟨n,rfl⟩:∃n:Nat,b=(n:Int):=⟨b.natAbs,by omega⟩;simp
def dI(b:Bool):Int:=if b=true then 1 else 0
@[simp] def J2(p:Int×Bool×Int):AV:=.aU [.d (.int .i64 p.1),.d (.bool p.2.1),.d (.int .i64 p.2.2)]
def kZ:Int×Bool×Int:=(0,false, -1)
def tV(p:Int×Bool):Int×Bool×Int:=if p.2=true then (p.1,false,0)else (0,false,2)
def o8(p:Int×Int):Int×Bool×Int:=if p.2=3 then (0,false,1)else if p.2=0 then (p.1,false,0)else (0,false,2)
def qG(op a:Int)(t:Bool):Int×Bool×Int:=
 if t=true then (if a≠0∧a≠1 then kZ else if op=7 then (dI (decide (a=0)),true,0)else kZ)
 else if op=6 then tV (kG (0-a))else kZ
def He(op a b:Int):Int×Bool×Int:=
 if op=13 then (dI (decide (a=b)),true,0)else if op=14∨op=20 then (dI (decide (a≠b)),true,0)
 else if op=19 then (dI (decide (a=1∧b=1)),true,0)else if op=21 then (dI (decide (a=1∨b=1)),true,0)else kZ
def Cb(op a b:Int):Int×Bool×Int:=
 if op=8 then tV (kG (a+b))else if op=9 then tV (kG (a-b))else if op=10 then tV (kG (a*b))else if op=11 then o8 (yh a b)else if op=12 then o8 (AK a b)
 else if op=13 then (dI (decide (a=b)),true,0)else if op=14 then (dI (decide (a≠b)),true,0)else if op=15 then (dI (decide (a<b)),true,0)
 else if op=16 then (dI (decide (b<a)),true,0)else if op=17 then (dI (decide (a≤b)),true,0)else if op=18 then (dI (decide (b≤a)),true,0)else kZ
def uB(op a b:Int)(t:Bool):Int×Bool×Int:=
 if t=true then (if (a≠0∧a≠1)∨(b≠0∧b≠1)then kZ else He op a b)else Cb op a b
def Rt(e b:Int):Int:=if e<b then e+1 else e
def af0(k a b q e:Int):List Int:=
 if k=10 then (if a=0 then [a,b,0,0]else [a,b,dI (decide (b≤Rt e b)),Rt e b])
 else if k=11 then (if a=0 then (if q=0 then [a,b,q,e]else [a,b,dI (decide (Rt e b<b)),Rt e b])else [a,b,1,0])
 else [a,b,q,e]
def tpS(a b q e p r:Int):List Int:=
 let r1:=if a≠0∧p=0∧r=0 then 1 else r
 let e1:=if a≠0∧p=0∧r=0 then 0 else e
 if r1=0 then [a,b,q,e1,dI (decide (a≠0)),r1]else [a,b,dI (decide (e1<b)),Rt e1 b,dI (decide (a≠0)),dI (decide (e1<b))]
def cuS(a s v q c p:Int):List Int:=
 let c1:=if s≠0 then 0 else if a≠0∧p=0∧c<9223372036854775807 then c+1 else c
 [a,s,v,dI (decide (v≤c1)),c1,dI (decide (a≠0))]
def cdS(a s v q c p:Int):List Int:=
 let c1:=if s≠0 then v else if a≠0∧p=0∧ -9223372036854775808<c then c-1 else c
 [a,s,v,dI (decide (c1≤0)),c1,dI (decide (a≠0))]
def af1(k a b q e p r:Int):List Int:=
 if k=12 then tpS a b q e p r else if k=13 then cuS a b q e p r else if k=14 then cdS a b q e p r else [a,b,q,e,p,r]
def af2(k a b q:Int):List Int:=
 if k=15 then [a,dI (decide (a≠0∧q=0)),dI (decide (a≠0))]else if k=16 then [a,dI (decide (a=0∧q≠0)),dI (decide (a≠0))]
 else if k=17 then [a,b,dI (decide (a≠0∨(q≠0∧b=0)))]else if k=18 then [a,b,dI (decide (b=0∧(q≠0∨a≠0)))]else [a,b,q]
def af3(k:Int):List Int→List Int
 |[a,b,q]=>af2 k a b q
 |[a,b,q,e]=>af0 k a b q e
 |[a,b,q,e,p,r]=>af1 k a b q e p r
 |c=>c
end Go.Am
end
section
namespace Go.Am
inductive Ends(succ:Nat→List Nat):Nat→Prop
 |mk (i:Nat) (h:∀j∈succ i,Ends succ j):Ends succ i
inductive Way(succ:Nat→List Nat):Nat→Nat→Prop
 |one {i j} (h:j∈succ i):Way succ i j
 |more {i j k} (h:Way succ i j) (h2:k∈succ j):Way succ i k
theorem Way.trans{succ:Nat→List Nat}{i j k:Nat}(h:Way succ i j)(h2:Way succ j k):Way succ i k:=by
 induction h2 with
 |one h3=>exact .more h h3
 |more _ h3 ih=>exact .more ih h3
def fresh(seen:List Nat):Nat:=seen.countP (·== 0)
structure yV(succ:Nat→List Nat)(seen yW:List Nat):Prop where
 len:yW.length=seen.length
 abH:∀i,yW.getD i 0=1↔seen.getD i 0=1
 black:∀i,seen.getD i 0=2→yW.getD i 0=2
 abI:(∀i,seen.getD i 0≤2)→∀i,yW.getD i 0≤2
 ends:(∀i,seen.getD i 0=2→Ends succ i)→∀i,yW.getD i 0=2→Ends succ i
 fresh:fresh yW≤fresh seen
theorem yV.refl(succ:Nat→List Nat)(s:List Nat):yV succ s s:=⟨rfl,fun _=>Iff.rfl,fun _ h=>h,fun h=>h,fun h=>h,Nat.le_refl _⟩
theorem yV.trans{succ:Nat→List Nat}{a b c:List Nat}(h:yV succ a b)(k:yV succ b c):yV succ a c:=
 ⟨by rw[k.len,h.len],fun i=>(k.abH i).trans (h.abH i),fun i hi=>k.black i (h.black i hi),fun hv=>k.abI (h.abI hv),fun he=>k.ends (h.ends he),Nat.le_trans k.fresh h.fresh⟩
def left(g:List Bool):Nat:=g.countP (·== false)
structure vP(succ:Nat→List Nat)(s s':List Bool×Bool):Prop where
 len:s'.1.length=s.1.length
 ends:(∀i<s.1.length,s.1.getD i true=true→Ends succ i)→∀i<s.1.length,s'.1.getD i true=true→Ends succ i
 less:s'.2=true→s.2=false→left s'.1<left s.1
 le:left s'.1≤left s.1
 more:s.2=true→s'.2=true
 same:s'.2=false→s'=s
theorem vP.trans{succ:Nat→List Nat}{a b c:List Bool×Bool}(h:vP succ a b)(k:vP succ b c):vP succ a c:=
 ⟨by
  rw[k.len,h.len],fun he=>by have:=k.ends;rw[h.len]at this;exact this (h.ends he),fun h1 h2=>by
  cases hb:b.2 with
  |true=>exact Nat.lt_of_le_of_lt k.le (h.less hb h2)
  |false=>exact Nat.lt_of_lt_of_le (k.less h1 hb) h.le,Nat.le_trans k.le h.le,fun h1=>k.more (h.more h1),fun h1=>by
  cases hb:b.2 with
  |true=>rw[k.more hb]at h1;cases h1
  |false=>rw[k.same h1,h.same hb]⟩
structure ar where
 op:Int
 a:Int
 b:Int
 n:Int
 m:Int
def gE(cells at_ n:Int):Bool:=decide (0≤at_)&&decide (0≤n)&&decide (n≤cells)&&decide (at_≤cells-n)
def vQ(x:ar):Bool:=
 if x.a=0 then decide (x.b=6)||decide (8≤x.b)&&decide (x.b≤18)
 else if x.a=1 then decide (x.b=7)||decide (x.b=13)||decide (x.b=14)||decide (19≤x.b)&&decide (x.b≤21)
 else false
def Hf(cells:Int)(x:ar):Bool:=decide (0≤x.n)&&decide (x.n≤x.m)&&decide (x.m≤255)&&gE cells x.a (x.m-x.n+1)
def eS(pins:Int→Nat)(cells last at_:Int)(x:ar):Bool:=
 if x.op=1∨x.op=11 then true
 else if x.op=2∨x.op=3∨x.op=6∨x.op=14 then gE cells x.a 1
 else if x.op=13 then gE cells x.a 1&&gE cells x.b 2
 else if x.op=4∨x.op=5∨x.op=7 then Hf cells x
 else if x.op=8 then vQ x
 else if x.op=9∨x.op=10 then decide (0≤x.a)&&decide (x.a≤last)
 else if x.op=12 then decide (0<pins x.b)&&gE cells x.a (pins x.b)
 else if x.op=15 then decide (at_=last)
 else false
def mC(n:Nat)(t:Bool)(S:List Bool):Option (List Bool):=
 if S.length<n then none else if t&&(S.drop (S.length-n)).any (fun b=>!b)then none else some (S.take (S.length-n))
def m4(t:Bool)(S:List Bool):Option (List Bool):=if S.length<64 then some (S++[t])else none
def ko(S:List Bool):Option (List Bool):=if S=[]then some []else none
def df(x:ar)(S:List Bool):Option (List Bool):=
 if x.op=1 then m4 (decide (x.n=0)||decide (x.n=1)) S
 else if x.op=2 then m4 false S
 else if x.op=3∨x.op=13∨x.op=14 then m4 true S
 else if x.op=4 then (mC 1 false S).bind (m4 false)
 else if x.op=5 then (mC 1 false S).bind (m4 true)
 else if x.op=6 then mC 1 false S
 else if x.op=7 then mC 2 false S
 else if x.op=8 then (mC (if x.b=6∨x.b=7 then 1 else 2) (decide (x.a=1)) S).bind (m4 (decide (x.b=7)||decide (13≤x.b)))
 else if x.op=10 then (mC 1 true S).bind ko
 else ko S
def af4(ins:List ar)(i:Nat):List Nat:=
 match ins[i]? with
 |none=>[]
 |some x=>if x.op=9 then [x.a.toNat]else if x.op=10 then [i+1,x.a.toNat]else if x.op=15 then []else [i+1]
end Go.Am
end
section
namespace Go.Am
open Go
noncomputable def n9(X:Ctx)(f:FuncId)(c:Code)(S:St)(ds:List DF):XD:=gq fun k=>iA X f (aR X k) k c S ds
noncomputable def Cc(X:Ctx)(f:FuncId)(rv:AV)(c:Code)(S:St):Option (XE×St):=gq fun k=>mB X f (aR X k) k rv c S
noncomputable def De(X:Ctx):bq:=fun g args cs=>gq fun k=>me X k (aR X k) g args cs
abbrev yi:=XE→St→List DF→bP
noncomputable def jz(X:Ctx)(f:FuncId)(c:Code)(S:St)(ds:List DF)(k:yi):bP:=(n9 X f c S ds).bind fun p=>k p.1 p.2.1 p.2.2
noncomputable def vR(X:Ctx)(md:Bool)(all ops:List Oper)(S:St)(ds:List DF)(k:yi):bP:=(fA X (ai X) md all ops S ds).bind fun p=>k p.1 p.2.1 p.2.2
noncomputable def seqKD(X:Ctx)(f:FuncId)(b:Code)(k:yi):yi
 | .normal,S,ds=>jz X f b S ds k
 |e,S,ds=>k e S ds
def leaveKD(X:Ctx)(f:FuncId)(id:Nat)(k:yi):yi
 | .normal,S,ds=>k .normal (S.leave X f id) ds
 |e,S,ds=>k e S ds
noncomputable def nextKD(X:Ctx)(md:Bool)(all r:List Oper)(ds:List DF)(k:yi):Kt
 | .normal,S=>vR X md all r S ds k
 |e,S=>k e S ds
noncomputable def oneKD(X:Ctx)(md:Bool)(all r:List Oper)(o:Oper)(S:St)(ds:List DF)(k:yi):Option DF→bP
 |some d=>vR X md all r (S.put o.dst true .aZ) (d::ds) k
 |none=>runK X md all [o] S (nextKD X md all r ds k)
section
variable {X:Ctx} {f:FuncId} {S:St} {ds:List DF} {md:Bool}
theorem tW(all:List Oper):∀(ops:List Oper)(S:St)(ds:List DF),gq (fun k=>fA X (aR X k) md all ops S ds)=fA X (ai X) md all ops S ds
 |[],S,ds=>aQ _
 |o::r,S,ds=>by
  simp only[fA];cases mc S o with
  |some d=>exact tW all r _ _
  |none=>
   simp only[AG];rw[dY (g:=fun x n=>nT (fun S1=>fA X (aR X n) md all r S1 ds) ds x) (qX (bC X) all) (fun x=>by
    obtain⟨e,S1⟩:=x;cases e with
    |normal=>exact lM (bC X) all r S1 ds
    |_=>exact aJ.const _),Em]
   congr 1;funext x;obtain⟨e,S1⟩:=x;cases e with
   |normal=>exact tW all r S1 ds
   |_=>exact aQ _
theorem dmD(c:Code)(S:St)(ds:List DF):aJ (fun k=>iA X f (aR X k) k c S ds):=El (bC X) f (m:=fun k=>k) (fun k=>Nat.le_succ k) c S ds
theorem Rv{a b:Code}:n9 X f (.seq a b) S ds=GD (n9 X f b) (n9 X f a S ds):=by
 unfold n9;simp only[iA,JW];rw[dY (g:=fun x n=>sT (iA X f (aR X n) n b) x) (dmD a S ds) (fun x=>by
  obtain⟨e,S1,sR⟩:=x;cases e with
  |normal=>exact dmD b S1 sR
  |_=>exact aJ.const _)]
 congr 1;funext x;obtain⟨e,S1,sR⟩:=x;cases e<;>first|rfl|exact aQ _
theorem lN{c:Code}(h:∀k,iA X f (aR X k) k c S ds=vz ds (den X f (aR X k) k c S)):n9 X f c S ds=vz ds (fR X f c S):=by
 unfold n9 fR;have:(fun k=>iA X f (aR X k) k c S ds)=fun k=>(den X f (aR X k) k c S).bind fun q=>dT ds q:=by
  funext k;rw[h,Dc]
 rw[this,dY (dm c S) (fun _=>aJ.const _),Dc];simp only[aQ]
theorem Rx{id:Nat}{ops:Array Oper}(h:xN ops.toList=true):n9 X f (.region id ops false) S ds=xO (St.leave X f id) (fA X (ai X) (X.md f id) ops.toList ops.toList S ds):=by
 unfold n9;have:(fun k=>iA X f (aR X k) k (.region id ops false) S ds)=fun k=>(fA X (aR X k) (X.md f id) ops.toList ops.toList S ds).bind fun q=>lT (St.leave X f id) q:=by
  funext k;simp only[iA,h,Bool.not_false,Bool.and_self,x8]
 rw[this,dY (lM (bC X) _ _ _ _) (fun _=>aJ.const _),tW,x8];simp only[aQ]
variable {k:yi}
theorem denKD_seq{a b:Code}:jz X f (.seq a b) S ds k=jz X f a S ds (seqKD X f b k):=by
 simp only[jz,Rv];rcases n9 X f a S ds with _|⟨e,S1,sR⟩
 ·rfl
 ·cases e<;>rfl
theorem lO{c:Code}(h:n9 X f c S ds=vz ds (fR X f c S)):jz X f c S ds k=aI X f c S fun e S=>k e S ds:=by
 simp only[jz,aI,h];rcases fR X f c S with _|⟨e,S1⟩<;>rfl
theorem denKD_cond{o:Operand}{a b:Code}:jz X f (.cond o a b) S ds k=aI X f (.cond o a b) S fun e S=>k e S ds:=lO (lN fun _=>rfl)
theorem denKD_ret:jz X f .ret S ds k=aI X f .ret S fun e S=>k e S ds:=lO (lN fun _=>rfl)
theorem denKD_skip:jz X f .skip S ds k=aI X f .skip S fun e S=>k e S ds:=lO (lN fun _=>rfl)
theorem denKD_loop{c:Code}:jz X f (.loop c) S ds k=aI X f (.loop c) S fun e S=>k e S ds:=lO (lN fun _=>rfl)
theorem denKD_block{id:Nat}{c:Code}:jz X f (.block id c) S ds k=aI X f (.block id c) S fun e S=>k e S ds:=lO (lN fun _=>rfl)
theorem denKD_draw{id:Nat}{ops:Array Oper}:jz X f (.region id ops true) S ds k=aI X f (.region id ops true) S fun e S=>k e S ds:=lO (lN fun _=>rfl)
theorem denKD_reg{id:Nat}{l:List Oper}:jz X f (.region id ⟨l⟩ false) S ds k=if xN l=true then vR X (X.md f id) l l S ds (leaveKD X f id k)else aI X f (.region id ⟨l⟩ false) S fun e S=>k e S ds:=by
 split
 ·rename_i h;simp only[jz,vR,Rx (ops:=⟨l⟩) h];rcases fA X (ai X) (X.md f id) l l S ds with _|⟨e,S1,sR⟩
  ·rfl
  ·cases e<;>rfl
 ·rename_i h;exact lO (lN fun _=>by simp[iA,h])
theorem runKD_nil{all:List Oper}:vR X md all [] S ds k=k .normal S ds:=rfl
theorem runKD_cons{all r:List Oper}{o:Oper}:vR X md all (o::r) S ds k=oneKD X md all r o S ds k (mc S o):=by
 simp only[vR,fA];cases mc S o with
 |some d=>rfl
 |none=>
  simp only[oneKD,runK,fh,AG,vJ];rcases mb X (ai X) md all S o with _|⟨e,S1⟩
  ·rfl
  ·cases e<;>rfl
end
noncomputable def finKD(X:Ctx)(p:ay)(n0:Nat)(rs:List ResultVar):yi
 |e,S,[]=>AJ X.P p n0 rs e S
 |e,S,[d]=>finD1 X p n0 rs (De X) S d (recA e)
 |_,_,_=>none
noncomputable def sW(X:Ctx)(f:FuncId)(rv:AV)(c:Code)(S:St)(k:Kt):bP:=(Cc X f rv c S).bind fun p=>k p.1 p.2
def finRK(P:Program)(p:ay)(n0:Nat)(rs:List ResultVar):Kt
 | .normal,S=>finish P p n0 rs S
 | .ret,S=>finish P p n0 rs S
 |_,_=>none
section
variable {X:Ctx} {f:FuncId} {S:St}
theorem pJ(X:Ctx):eB fun k=>me X k (aR X k):=B4 (bC X) (m:=fun k=>k) (fun k=>Nat.le_succ k)
theorem Jo{C:Nat→bq}(hC:eB C)(m:Mem)(k0:Nat)(g:FuncId)(ys:List AV)(mt:List Nat):gq (fun k=>callOp (C k) m k0 g ys mt)=callOp (fun g a c=>gq fun k=>C k g a c) m k0 g ys mt:=by
 unfold callOp callOp2 callOp3;simp only[tR];rw[dY (hC _ _ _) (fun _=>aJ.const _)];simp only[aQ]
theorem Ry(p:ay)(n0:Nat)(rs:List ResultVar)(d:DF)(rv:Option AV):gq (fun k=>finD1 X p n0 rs (me X k (aR X k)) S d rv)=finD1 X p n0 rs (De X) S d rv:=by
 cases rv with
 |none=>exact aQ _
 |some rv=>
  simp only[finD1,JZ,JY S (callOp _ _ _ _ _ _)];rw[dY (g:=fun S _=>finish X.P p n0 rs S) ((pI (pJ X) _ _ _ _ _).bind (g:=fun c _=>memC S (some c)) fun _=>aJ.const _) (fun _=>aJ.const _),
   dY (g:=fun c _=>memC S (some c)) (pI (pJ X) _ _ _ _ _) (fun _=>aJ.const _),Jo (pJ X)]
  simp only[aQ];rfl
theorem Rz{fn:Func}{c:Code}{args:List AV}{cs:List aE}{n:Nat}{rs:List ResultVar}{p:ay}(uA:X.ov=none)(rC:X.wJ f=none)(hf:X.P.funcs[f]?=some fn)(hb:fn.body=some c)(iY:vA c=true)(hn:fn.ntmps=n)(lC:fn.results.toList=rs)
 (hp:X.fp f=p) (cQ:callOk n p args cs=true):ai X f args cs=jz X f c (entry n X.gl args cs p.sites) [] (finKD X p cs.length rs):=by
 subst hp;subst hn;subst lC;unfold ai;rw[←sS (bC X f args cs)];have e1:(fun k=>aR X (k+1) f args cs)=fun k=>(iA X f (aR X k) k c (entry fn.ntmps X.gl args cs (X.fp f).sites) []).bind fun q=>tL X (X.fp f) cs.length fn.results.toList (me X k (aR X k)) (some q):=by
  funext k;rw[aR,uA,rC,hf];simp only[hb,iY,uw,uv];rw[if_pos (by simpa only[callOk]using cQ),J0]
 rw[e1,dY (g:=fun q k=>tL X (X.fp f) cs.length fn.results.toList (me X k (aR X k)) (some q)) (dmD c _ _) (fun q=>B5 (pJ X) _ _ _ q)];simp only[jz];congr 1;funext q;obtain⟨e,S1,ds⟩:=q;match ds with
 |[]=>
  simp only[tL,finKD,aQ];cases e<;>rfl
 |[d]=>exact Ry _ _ _ _ _
 |_::_::_=>exact aQ _
theorem Zu{fn:Func}{c:Code}{args ys:List AV}{rv:AV}{cs:List aE}{n:Nat}{rs:List ResultVar}{p:ay}(hf:X.P.funcs[f]?=some fn)(hb:fn.body=some c)(hn:fn.ntmps=n)(lC:fn.results.toList=rs)
 (hp:X.fp f=p) (hl:args.getLast?=some rv) (hy:args.dropLast=ys) (cQ:callOk n p ys cs=true):De X f args cs=sW X f rv c (entry n X.gl ys cs p.sites) (finRK X.P p cs.length rs):=by
 subst hp;subst hn;subst lC;subst hy;unfold De;have e1:(fun k=>me X k (aR X k) f args cs)=fun k=>(mB X f (aR X k) k rv c (entry fn.ntmps X.gl args.dropLast cs (X.fp f).sites)).bind fun q=>Oa X.P (X.fp f) cs.length fn.results.toList (some q):=by
  funext k;simp only[me,hf,hb,uu,hl];rw[if_pos (by simpa only[callOk]using cQ),JX]
 rw[e1,dY (yb (bC X) f (m:=fun k=>k) (fun k=>Nat.le_succ k) rv c _) (fun _=>aJ.const _)];simp only[sW,aQ];congr 1;funext q;obtain⟨e,S1⟩:=q;cases e<;>rfl
variable {k:Kt} {rv:AV}
theorem denRK_seq{a b:Code}:sW X f rv (.seq a b) S k=sW X f rv a S (ye X f b k):=by
 have h:Cc X f rv (.seq a b) S=andThen (Cc X f rv a S) (fR X f b):=
  tU (F:=fun n=>mB X f (aR X n) n rv a S) (K:=fun S' n=>den X f (aR X n) n b S') (yb (bC X) f (m:=fun k=>k) (fun k=>Nat.le_succ k) rv a S) (fun S'=>dm b S')
 simp only[sW,h,rV];congr 1;funext q;obtain⟨e,S1⟩:=q;cases e<;>rfl
theorem RA{id:Nat}{o:Oper}{r:List Oper}(h:sL o=true):sW X f rv (.region id ⟨o::r⟩ false) S k=runK X (X.md f id) (o::r) r (S.put o.dst true rv) (yf X f id k):=by
 have h1:Cc X f rv (.region id ⟨o::r⟩ false) S=tK (St.leave X f id) (fh X (ai X) (X.md f id) (o::r) r (S.put o.dst true rv)):=by
  unfold Cc;have:(fun k=>mB X f (aR X k) k rv (.region id ⟨o::r⟩ false) S)=fun k=>(fh X (aR X k) (X.md f id) (o::r) r (S.put o.dst true rv)).bind fun q=>mT (St.leave X f id) q:=by
   funext k;simp only[mB,h,if_true,o7]
  rw[this,dY (jL (bC X) _ _ _) (fun _=>aJ.const _),qY,o7];simp only[aQ]
 simp only[sW,runK,h1];rcases fh X (ai X) (X.md f id) (o::r) r (S.put o.dst true rv)with _|⟨e,S1⟩
 ·rfl
 ·cases e<;>rfl
end
def Ctx.over(X:Ctx)(cl:bq):Ctx:={X with ov:=some cl}
section
variable {X:Ctx} {cl C:bq} {f:FuncId}
@[simp] theorem ar2:(X.over cl).P=X.P:=rfl
@[simp] theorem apq:(X.over cl).gl=X.gl:=rfl
@[simp] theorem aja:(X.over cl).oT=X.oT:=rfl
@[simp] theorem apr:(X.over cl).gh=X.gh:=rfl
@[simp] theorem aps:(X.over cl).md=X.md:=rfl
@[simp] theorem apt:(X.over cl).fp=X.fp:=rfl
@[simp] theorem apu:(X.over cl).od=X.od:=rfl
@[simp] theorem apv:(X.over cl).fl=X.fl:=rfl
@[simp] theorem af5:ai (X.over cl)=cl:=by
 funext g a c;unfold ai;rw[←sS (bC (X.over cl) g a c)];have:(fun n=>aR (X.over cl) (n+1) g a c)=fun _=>cl g a c:=rfl;rw[this,aQ]
end
inductive PR(ε σ α:Type) where
 |ok (a:α) (s:σ)
 |bad (e:ε) (s:σ)
 |out
section
variable {ε σ α β γ:Type}
def PR.el(r:PR ε σ α)(f:α→σ→Option β)(g:ε→σ→Option β):Option β:=
 match r with
 | .ok a s=>f a s
 | .bad e s=>g e s
 | .out=>none
@[simp] theorem auK{a:α}{s:σ}{f:α→σ→Option β}{g:ε→σ→Option β}:(PR.ok a s).el f g=f a s:=rfl
@[simp] theorem ar3{e:ε}{s:σ}{f:α→σ→Option β}{g:ε→σ→Option β}:(PR.bad e s).el f g=g e s:=rfl
@[simp] theorem ar4{f:α→σ→Option β}{g:ε→σ→Option β}:(PR.out:PR ε σ α).el f g=none:=rfl
@[simp] theorem ar5{c:Prop}[Decidable c]{a b:PR ε σ α}{f:α→σ→Option β}{g:ε→σ→Option β}:(if c then a else b).el f g=if c then a.el f g else b.el f g:=by split<;>rfl
def PR.bind(r:PR ε σ α)(k:α→σ→PR ε σ γ):PR ε σ γ:=
 match r with
 | .ok a s=>k a s
 | .bad e s=>.bad e s
 | .out=>.out
@[simp] theorem apw{a:α}{s:σ}{k:α→σ→PR ε σ γ}:(PR.ok a s).bind k=k a s:=rfl
@[simp] theorem ak3{e:ε}{s:σ}{k:α→σ→PR ε σ γ}:(PR.bad e s:PR ε σ α).bind k=.bad e s:=rfl
@[simp] theorem ak4{k:α→σ→PR ε σ γ}:(PR.out:PR ε σ α).bind k=.out:=rfl
@[simp] theorem apx{r:PR ε σ α}{k:α→σ→PR ε σ γ}{f:γ→σ→Option β}{g:ε→σ→Option β}:(r.bind k).el f g=r.el (fun a s=>(k a s).el f g) g:=by cases r<;>rfl
@[simp] theorem auL{r:PR ε σ α}{f:α→σ→Option β}{g:ε→σ→Option β}:r.el (fun a s=>f a s) (fun e s=>g e s)=r.el f g:=rfl
theorem el_frz{n0:Nat}{b:Bool}{r:PR ε σ α}{f:α→σ→bP}{g:ε→σ→bP}:frzR n0 b (r.el f g)=r.el (fun a s=>frzR n0 b (f a s)) (fun e s=>frzR n0 b (g e s)):=by cases r<;>rfl
theorem el_back{m:Mem}{k0:Nat}{ρ B:List Nat}{r:PR ε σ α}{f:α→σ→bP}{g:ε→σ→bP}:callBack m k0 ρ B (r.el f g)=r.el (fun a s=>callBack m k0 ρ B (f a s)) (fun e s=>callBack m k0 ρ B (g e s)):=by cases r<;>rfl
theorem el_callK{X:Ctx}{md:Bool}{S:St}{d:Option Nat}{all q:List Oper}{k:Kt}{r:PR ε σ α}{f:α→σ→Option fH}{g:ε→σ→Option fH}:callK X md S d all q k (r.el f g)=r.el (fun a s=>callK X md S d all q k (f a s)) (fun e s=>callK X md S d all q k (g e s)):=by cases r<;>rfl
theorem el_dcallK{X:Ctx}{md:Bool}{nd:Nat×List (List Nat)}{S:St}{d:Option Nat}{all q:List Oper}{acc:List aS}{k:Kt}{r:PR ε σ α}{f:α→σ→Option fH}{g:ε→σ→Option fH}:dcallK X md nd S d all q acc k (r.el f g)=r.el (fun a s=>dcallK X md nd S d all q acc k (f a s)) (fun e s=>dcallK X md nd S d all q acc k (g e s)):=by cases r<;>rfl
def Le(a b:Option β):Prop:=∀r,a=some r→b=some r
theorem Le.refl(a:Option β):Le a a:=fun _ h=>h
theorem Le.trans{a b c:Option β}(h:Le a b)(k:Le b c):Le a c:=fun r hr=>k r (h r hr)
theorem Le.none{b:Option β}:Le none b:=fun _ h=>by cases h
theorem Le.el{r:PR ε σ α}{f f':α→σ→Option β}{g g':ε→σ→Option β}(hf:∀a s,Le (f a s) (f' a s))(hg:∀e s,Le (g e s) (g' e s)):Le (r.el f g) (r.el f' g'):=by
 cases r with
 |ok a s=>exact hf a s
 |bad e s=>exact hg e s
 |out=>exact Le.none
end
end Go.Am
end
section
namespace Go.Am
abbrev Tx:=List UInt8
def pa(c:UInt8):Bool:=decide (65≤c.toNat)&&decide (c.toNat≤90)||decide (97≤c.toNat)&&decide (c.toNat≤122)
def oa(c:UInt8):Bool:=decide (48≤c.toNat)&&decide (c.toNat≤57)
def eT(c:UInt8):Bool:=pa c||oa c||decide (c.toNat=95)
def uC(c:UInt8):Bool:=decide (c.toNat=32)||decide (c.toNat=10)||decide (c.toNat=9)
def fS(c:UInt8):Nat:=if oa c then c.toNat-48 else if 65≤c.toNat∧c.toNat≤70 then c.toNat-65+10 else 99
def jA(p:Int×Int)(c:UInt8):Int×Int:=if c=10 then (p.1+1,1)else (p.1,p.2+1)
def fT(s:Tx):Int×Int:=s.foldl jA (1,1)
theorem Cd:∀(s:Tx)(p:Int×Int)(n:Nat),1≤p.1→p.1≤n→1≤p.2→p.2≤n→1≤(s.foldl jA p).1∧(s.foldl jA p).1≤n+s.length∧1≤(s.foldl jA p).2∧(s.foldl jA p).2≤n+s.length
 |[],p,n,h1,h2,h3,h4=>by simp;omega
 |c::r,p,n,h1,h2,h3,h4=>by
  have h:=Cd r (jA p c) (n+1) (by unfold jA;split<;>simp<;>omega) (by unfold jA;split<;>simp<;>omega) (by unfold jA;split<;>simp<;>omega) (by unfold jA;split<;>simp<;>omega);simp only[List.foldl_cons,List.length_cons];omega
theorem RB{s:Tx}{i:Nat}:1≤(fT (s.take i)).1∧(fT (s.take i)).1≤s.length+1∧1≤(fT (s.take i)).2∧(fT (s.take i)).2≤s.length+1:=by
 have h:=Cd (s.take i) (1,1) 1 (by simp) (by simp) (by simp) (by simp);have hl:(s.take i).length≤s.length:=by simp;omega
 unfold fT;omega
theorem yj{s:Tx}{i:Nat}(h:i<s.length):fT (s.take (i+1))=jA (fT (s.take i)) s[i]:=by
 unfold fT;rw[List.take_add_one,List.getElem?_eq_getElem h,List.foldl_append];rfl
def mf:Tx→Option Nat
 |[]=>none
 |c::r=>if c=42∧r.head?=some 41 then some 0 else (mf r).map (·+1)
def ix(s:Tx):Nat:=(s.takeWhile (·≠10)).length
theorem Hg(s:Tx):ix s≤s.length:=by unfold ix;exact (List.takeWhile_prefix _).length_le
theorem WD(a c:UInt8):(a == c)=decide (c=a):=by
 by_cases h:c=a
 ·simp[h]
 ·simp[h];exact fun e=>h e.symm
theorem uD:∀(t:Tx),Go.Lib.indexByte t 10=if ix t<t.length then (ix t:Int)else-1
 |[]=>rfl
 |c::r=>by
  have ih:=uD r;unfold Go.Lib.indexByte;by_cases hc:c=10
  ·subst hc;simp[ix]
  ·have e:ix (c::r)=ix r+1:=by simp[ix,hc]
   rw[e,ih];simp only[beq_iff_eq,hc,if_false,List.length_cons];by_cases h:ix r<r.length
   ·simp only[if_pos h];rw[if_neg (by omega),if_pos (by omega)];omega
   ·simp[h]
theorem vS:∀{t:Tx}{m:Nat},mf t=some m→m+2≤t.length
 |[],m,h=>by cases h
 |c::r,m,h=>by
  unfold mf at h;split at h
  ·rename_i hc;cases h;cases r with
   |nil=>simp at hc
   |cons d r=>simp
  ·cases hf:mf r with
   |none=>rw[hf]at h;cases h
   |some n=>
    rw[hf]at h;cases h;have:=vS hf;simp;omega
theorem Eo:∀(t:Tx),Go.Lib.index t [42,41]=match mf t with|none=> -1|some m=>(m:Int)
 |[]=>rfl
 |c::r=>by
  have ih:=Eo r;unfold Go.Lib.index mf;have e:(([42,41]:Tx).isPrefixOf (c::r))=decide (c=42∧r.head?=some 41):=by
   cases r with
   |nil=>simp[List.isPrefixOf]
   |cons d r=>simp[List.isPrefixOf,WD]
  rw[e,ih];by_cases hc:c=42∧r.head?=some 41
  ·simp[hc]
  ·rw[if_neg hc];simp only[hc,decide_false,Bool.false_eq_true,if_false];cases hf:mf r with
   |none=>simp
   |some n=>simp
theorem Ce(a b c:UInt8)(r:Tx):Go.Lib.hasPrefix (c::r) [a,b]=(decide (c=a)&&decide (r.head?=some b)):=by
 unfold Go.Lib.hasPrefix;cases r with
 |nil=>simp[List.isPrefixOf]
 |cons d r=>simp[List.isPrefixOf,WD]
def fB:Nat→Tx→Nat×Bool
 |0,_=>(0,true)
 |_+1,[]=>(0,true)
 |f+1,c::r=>
  if uC c then (1+(fB f r).1,(fB f r).2)
  else if c=47∧r.head?=some 47 then (ix (c::r)+(fB f ((c::r).drop (ix (c::r)))).1,(fB f ((c::r).drop (ix (c::r)))).2)
  else if c=40∧r.head?=some 42 then match mf r.tail with
   |none=>(0,false)
   |some m=>(m+4+(fB f ((c::r).drop (m+4))).1,(fB f ((c::r).drop (m+4))).2)
  else (0,true)
def m5(s:Tx):Nat×Nat:=if [49,54,35].isPrefixOf s then (16,3)else if [56,35].isPrefixOf s then (8,2)else if [50,35].isPrefixOf s then (2,2)else (10,0)
def Df(base:Nat):Nat→Tx→Option Nat
 |x,[]=>some x
 |x,c::r=>if (9223372036854775807-fS c)/base<x then none else Df base (x*base+fS c) r
def AL(s:Tx)(b h:Nat)(ds:Tx):Nat×Nat×Nat:=
 if ds=[]∨(∃c,s[h+ds.length]?=some c∧(eT c=true∨c=35))then (0,0,5)
 else match Df b 0 ds with
  |none=>(0,0,2)
  |some x=>(h+ds.length,x,0)
def mD(s:Tx):Nat×Nat×Nat:=AL s (m5 s).1 (m5 s).2 ((s.drop (m5 s).2).takeWhile (fun c=>decide (fS c<(m5 s).1)))
def yk:Tx:=[43,45,42,47,40,41,91,93,46,44,59,58,60,62,61]
def Hh:List Tx:=[[58,61],[60,61],[62,61],[60,62],[46,46]]
def qZ(s:Tx):Nat:=if Hh.any (fun p=>p.isPrefixOf s)then 2 else match s with
 |[]=>0
 |c::_=>if c∈yk then 1 else 0
theorem yX:∀(f:Nat)(t:Tx),(fB f t).1≤t.length
 |0,_=>by simp[fB]
 |_+1,[]=>by simp[fB]
 |f+1,c::r=>by
  unfold fB;split
  ·have:=yX f r;simp;omega
  ·split
   ·have h1:=yX f ((c::r).drop (ix (c::r)));have h2:=Hg (c::r);simp only[List.length_drop]at h1;simp only;omega
   ·split
    ·split
     ·simp
     ·rename_i m hm;have h1:=yX f ((c::r).drop (m+4));have h2:=vS hm;have h3:r.tail.length=r.length-1:=by simp
      simp only[List.length_drop,List.length_cons]at h1⊢;omega
    ·simp
def RC:Tx:=[80,82,79,71,82,65,77,32,69,78,68,95,80,82,79,71,82,65,77,32,86,65,82,32,86,65,82,95,73,78,80,85,84,32,86,65,82,95,79,85,84,80,85,84,32,69,78,68,95,86,65,82,32,73,78,84,32,66,79,79,76,32,65,82,82,65,89,32,79,70,32,84,82,85,69,32,70,65,76,83,69,32,73,70,32,84,72,69,78,32,69,76,83,73,70,32,69,76,83,69,32,69,78,68,95,73,70,32,67,65,83,69,32,69,78,68,95,67,65,83,69,32,70,79,82,32,84,79,32,66,89,32,68,79,32,69,78,68,95,70,79,82,32,87,72,73,76,69,32,69,78,68,95,87,72,73,76,69,32,82,69,80,69,65,84,32,85,78,84,73,76,32,69,78,68,95,82,69,80,69,65,84,32,69,88,73,84,32,82,69,84,85,82,78,32,65,78,68,32,79,82,32,88,79,82,32,78,79,84,32,77,79,68]
def jB:List Tx:=[[80,82,79,71,82,65,77],[69,78,68,95,80,82,79,71,82,65,77],[86,65,82],[86,65,82,95,73,78,80,85,84],[86,65,82,95,79,85,84,80,85,84],[69,78,68,95,86,65,82],[73,78,84],[66,79,79,76],[65,82,82,65,89],[79,70],[84,82,85,69],[70,65,76,83,69],[73,70],[84,72,69,78],[69,76,83,73,70],[69,76,83,69],[69,78,68,95,73,70],[67,65,83,69],[69,78,68,95,67,65,83,69],[70,79,82],[84,79],[66,89],[68,79],[69,78,68,95,70,79,82],[87,72,73,76,69],[69,78,68,95,87,72,73,76,69],[82,69,80,69,65,84],[85,78,84,73,76],[69,78,68,95,82,69,80,69,65,84],[69,88,73,84],[82,69,84,85,82,78],[65,78,68],[79,82],[88,79,82],[78,79,84],[77,79,68]]
def sX(s:Tx):Bool:=decide (s∈jB)
structure eZ where
 kind:Int
 text:Tx
 n:Int
 line:Int
 Cf:Int
 deriving DecidableEq
def jW(s:Tx):Nat×Nat×Nat×Nat:=
 match s with
 |[]=>(5,0,0,0)
 |c::_=>
  if pa c then
   if sX (s.take (s.takeWhile eT).length)then (0,2,(s.takeWhile eT).length,0)
   else if 16<(s.takeWhile eT).length then (9,1,0,0)else (0,1,(s.takeWhile eT).length,0)
  else if oa c then
   if (mD s).2.2=0 then (0,3,(mD s).1,(mD s).2.1)else ((mD s).2.2,0,0,0)
  else if qZ s=0 then (5,0,0,0)else (0,4,qZ s,0)
def here(p:Int×Int):eZ:=⟨0,[],0,p.1,p.2⟩
def AM(s:Tx):Nat→Nat→List eZ→List eZ×Nat×eZ
 |0,_,_=>([],5,⟨0,[],0,0,0⟩)
 |f+1,i,out=>
  if (fB (s.length+1) (s.drop i)).2=false then ([],5,here (fT (s.take (i+(fB (s.length+1) (s.drop i)).1))))
  else if s.drop (i+(fB (s.length+1) (s.drop i)).1)=[]then (out++[here (fT (s.take (i+(fB (s.length+1) (s.drop i)).1)))],0,⟨0,[],0,0,0⟩)
  else if (jW (s.drop (i+(fB (s.length+1) (s.drop i)).1))).1≠0 then ([],(jW (s.drop (i+(fB (s.length+1) (s.drop i)).1))).1,here (fT (s.take (i+(fB (s.length+1) (s.drop i)).1))))
  else AM s f (i+(fB (s.length+1) (s.drop i)).1+(jW (s.drop (i+(fB (s.length+1) (s.drop i)).1))).2.2.1)
   (out++[⟨(jW (s.drop (i+(fB (s.length+1) (s.drop i)).1))).2.1,(s.drop (i+(fB (s.length+1) (s.drop i)).1)).take (jW (s.drop (i+(fB (s.length+1) (s.drop i)).1))).2.2.1,(jW (s.drop (i+(fB (s.length+1) (s.drop i)).1))).2.2.2,
    (fT (s.take (i+(fB (s.length+1) (s.drop i)).1))).1,(fT (s.take (i+(fB (s.length+1) (s.drop i)).1))).2⟩])
def Dg(s:Tx):List eZ×Nat×eZ:=if 16384<s.length then ([],13,⟨0,[],0,1,1⟩)else AM s (s.length+1) 0 []
end Go.Am
end
section
namespace Go.Am
open Go
inductive Ex where
 |mk (op n:Int) (name field:Tx) (sub:List Ex) (line:Int)
inductive Sm where
 |mk (op:Int) (name:Tx) (to val:Ex) (conds:List Ex) (labels:List (List Int)) (fields:List Tx) (blocks:List (List Sm)) (line:Int)
instance:Inhabited Ex:=⟨.mk 0 0 [] [] [] 0⟩
instance:Inhabited Sm:=⟨.mk 0 [] default default [] [] [] [] 0⟩
structure Vr where
 name:Tx
 ty:Int
 sec:Int
 arr:Bool
 lo:Int
 hi:Int
 init:Int
 line:Int
 deriving DecidableEq
structure Pg where
 name:Tx
 vars:List Vr
 body:List Sm
mutual
def bJ:Ex→D
 | .mk op n name field sub line=>.agg [.int .i64 op,.int .i64 n,.str name,.str field,.list (fX sub),.int .i64 line]
def fX:List Ex→List D
 |[]=>[]
 |x::r=>bJ x::fX r
end
theorem rk:∀l:List Ex,fX l=l.map bJ
 |[]=>rfl
 |x::r=>by simp[fX,rk r]
def uE:Ex→List D
 | .mk op n name field sub line=>[.int .i64 op,.int .i64 n,.str name,.str field,.list (fX sub),.int .i64 line]
theorem Fp(x:Ex):bJ x=.agg (uE x):=by cases x;rfl
def mq(l:List Int):D:=.list (l.map fun n=>.int .i64 n)
mutual
def b5:Sm→D
 | .mk op name to val conds labels fields blocks line=>.agg (.int .i64 op::.str name::(uE to++(uE val++[.list (fX conds),.list (labels.map mq),.list (fields.map .str),.list (ld blocks),.int .i64 line])))
def lf:List Sm→List D
 |[]=>[]
 |x::r=>b5 x::lf r
def ld:List (List Sm)→List D
 |[]=>[]
 |b::r=>.list (lf b)::ld r
end
theorem rl:∀l:List Sm,lf l=l.map b5
 |[]=>rfl
 |x::r=>by simp[lf,rl r]
theorem yY:∀l:List (List Sm),ld l=l.map fun b=>.list (b.map b5)
 |[]=>rfl
 |x::r=>by simp[ld,yY r,rl]
def ep(v:Vr):List D:=[.str v.name,.int .i64 v.ty,.int .i64 v.sec,.bool v.arr,.int .i64 v.lo,.int .i64 v.hi,.int .i64 v.init,.int .i64 v.line]
def bF(v:Vr):D:=.agg (ep v)
structure PS where
 at_:Nat
 deep:Int
 vars:List Vr
structure Er where
 e:Int
 line:Int
 Cf:Int
 deriving DecidableEq
abbrev PM(α:Type):=PR Er PS α
abbrev wr(n:Int):Int:=IntKind.i64.wrap n
section
variable (L:List eZ)
def rW(s:PS):PM eZ:=match L[s.at_]? with
 |some t=>.ok t s
 |none=>.out
def Ox{α:Type}(e:Int)(t:eZ)(s:PS):PM α:=.bad ⟨e,t.line,t.Cf⟩ s
def isW(t:eZ)(w:Tx):Bool:=(decide (t.kind=2)||decide (t.kind=4))&&decide (t.text=w)
def isS(w:Tx)(s:PS):PM Bool:=(rW L s).bind fun t s=>.ok (isW t w) s
def anyS:List Tx→PS→PM Bool
 |[],s=>.ok false s
 |w::r,s=>(isS L w s).bind fun b s=>if b=true then .ok true s else anyS r s
def yZ(s:PS):PM eZ:=(rW L s).bind fun t s=>.ok t (if t.kind=0 then s else {s with at_:=s.at_+1})
def jM(w:Tx)(s:PS):PM Bool:=(isS L w s).bind fun b s=>if b=true then (yZ L s).bind fun _ s=>.ok true s else .ok false s
def iy(w:Tx)(s:PS):PM Unit:=(jM L w s).bind fun b s=>if b=true then .ok () s else (rW L s).bind fun t s=>Ox 5 t s
def vT(k:Int)(s:PS):PM eZ:=(rW L s).bind fun t s=>if t.kind=k then yZ L s else (rW L s).bind fun t s=>Ox 5 t s
def WE(s:PS):PM Unit:=if 32<wr (s.deep+1)then (rW L {s with deep:=wr (s.deep+1)}).bind fun t s=>Ox 13 t s else .ok () {s with deep:=wr (s.deep+1)}
def Oy(s:PS):PM Unit:=.ok () {s with deep:=wr (s.deep-1)}
structure Kd where
 at_:eZ
 kind:Int
 arr:Bool
 lo:Int
 hi:Int
def J3(s:PS):PM Int:=(jM L [45] s).bind fun b s=>if b=true then (vT L 3 s).bind fun t s=>.ok (wr (-t.n)) s else (vT L 3 s).bind fun t s=>.ok t.n s
def lvT:List (List Tx):=[[[79,82]],[[88,79,82]],[[65,78,68]],[[61],[60,62],[60],[62],[60,61],[62,61]],[[43],[45]],[[42],[47],[77,79,68]]]
def opT:List Tx:=[[43],[45],[42],[47],[77,79,68],[61],[60,62],[60],[62],[60,61],[62,61],[65,78,68],[88,79,82],[79,82]]
def abK(w:Tx):List Tx→Nat→Int
 |[],_=> -1
 |x::r,i=>if w=x then i else abK w r (i+1)
def opI(w:Tx):Int:=8+abK w opT 0
def uF:Ex:=.mk 0 0 [] [] [] 0
def WG(t:eZ):Ex:=.mk 3 0 t.text [] [] t.line
def Cg(op:Int)(nm:Tx)(l:List Ex)(line:Int):Ex:=.mk op 0 nm [] l line
def Ep(s:PS):PM Bool:=(rW L s).bind fun t s=>if t.kind=3 then .ok true s else isS L [45] s
def J4:Nat→List Int→PS→PM (List Int)
 |0,_,_=>.out
 |f+1,l,s=>(J3 L s).bind fun lo s=>(jM L [46,46] s).bind fun b s=>(if b=true then J3 L s else .ok lo s).bind fun hi s=>
  if l.length<100000 then (jM L [44] s).bind fun b s=>if b=true then J4 f (l++[lo,hi]) s else (iy L [58] s).bind fun _ s=>.ok (l++[lo,hi]) s else .out
def UE(s:PS):PM Bool:=(Ep L s).bind fun b s=>if b=true then .ok true s else (isS L [69,76,83,69] s).bind fun b s=>if b=true then .ok true s else isS L [69,78,68,95,67,65,83,69] s
mutual
def rX:Nat→Nat→PS→PM Ex
 |0,_,_=>.out
 |f+1,n,s=>if n=6 then uG f s else if n<6 then (rX f (n+1) s).bind fun x s=>yl f n x s else .out
def yl:Nat→Nat→Ex→PS→PM Ex
 |0,_,_,_=>.out
 |f+1,n,x,s=>(anyS L (lvT.getD n []) s).bind fun b s=>if b=true then (yZ L s).bind fun t s=>(rX f (n+1) s).bind fun y s=>
  if n=3 then .ok (Cg (opI t.text) [] [x,y] t.line) s else yl f n (Cg (opI t.text) [] [x,y] t.line) s
  else .ok x s
def uG:Nat→PS→PM Ex
 |0,_=>.out
 |f+1,s=>(rW L s).bind fun t s=>(isS L [45] s).bind fun b s=>
  if b=true then Ch f 6 t s else (isS L [78,79,84] s).bind fun b s=>if b=true then Ch f 7 t s else uH f s
def Ch:Nat→Int→eZ→PS→PM Ex
 |0,_,_,_=>.out
 |f+1,op,t,s=>(WE L s).bind fun _ s=>(yZ L s).bind fun _ s=>(uG f s).bind fun x s=>(Oy s).bind fun _ s=>.ok (Cg op [] [x] t.line) s
def kH:Nat→PS→PM Ex
 |0,_=>.out
 |f+1,s=>rX f 0 s
def uI:Nat→PS→PM Ex
 |0,_=>.out
 |f+1,s=>(WE L s).bind fun _ s=>(iy L [91] s).bind fun _ s=>(kH f s).bind fun x s=>(iy L [93] s).bind fun _ s=>(Oy s).bind fun _ s=>.ok x s
def uH:Nat→PS→PM Ex
 |0,_=>.out
 |f+1,s=>(rW L s).bind fun t s=>
  if t.kind=3 then (yZ L s).bind fun u s=>.ok (.mk 1 u.n [] [] [] t.line) s else
  (jM L [84,82,85,69] s).bind fun b s=>if b=true then .ok (.mk 2 1 [] [] [] t.line) s else
  (jM L [70,65,76,83,69] s).bind fun b s=>if b=true then .ok (.mk 2 0 [] [] [] t.line) s else
  (isS L [40] s).bind fun b s=>if b=true then (WE L s).bind fun _ s=>(yZ L s).bind fun _ s=>(kH f s).bind fun x s=>(iy L [41] s).bind fun _ s=>(Oy s).bind fun _ s=>.ok x s else
  (vT L 1 s).bind fun _ s=>
  (isS L [91] s).bind fun b s=>if b=true then (uI f s).bind fun x s=>.ok (Cg 4 t.text [x] t.line) s else
  (jM L [46] s).bind fun b s=>if b=true then (vT L 1 s).bind fun u s=>.ok (.mk 5 0 t.text u.text [] t.line) s else .ok (WG t) s
end
def abL(op:Int):Sm:=.mk op [] uF uF [] [] [] [] 0
def ak5(line:Int):Sm→Sm
 | .mk op name to val conds labels fields blocks _=>.mk op name to val conds labels fields blocks line
mutual
def mP:Nat→List Tx→PS→PM (List Sm)
 |0,_,_=>.out
 |f+1,ends,s=>uJ f ends [] s
def uJ:Nat→List Tx→List Sm→PS→PM (List Sm)
 |0,_,_,_=>.out
 |f+1,ends,l,s=>(anyS L ends s).bind fun b s=>if b=true then .ok l s else (y9 f s).bind fun x s=>if l.length<100000 then uJ f ends (l++[x]) s else .out
def y9:Nat→PS→PM Sm
 |0,_=>.out
 |f+1,s=>(rW L s).bind fun t s=>(WE L s).bind fun _ s=>(Ci f s).bind fun x s=>(iy L [59] s).bind fun _ s=>(Oy s).bind fun _ s=>.ok (ak5 t.line x) s
def Ci:Nat→PS→PM Sm
 |0,_=>.out
 |f+1,s=>
  (jM L [73,70] s).bind fun b s=>if b=true then qg f s else
  (jM L [67,65,83,69] s).bind fun b s=>if b=true then ym f s else
  (jM L [70,79,82] s).bind fun b s=>if b=true then rY f s else
  (jM L [87,72,73,76,69] s).bind fun b s=>if b=true then (kH L f s).bind fun v s=>(iy L [68,79] s).bind fun _ s=>(mP f [[69,78,68,95,87,72,73,76,69]] s).bind fun l s=>(iy L [69,78,68,95,87,72,73,76,69] s).bind fun _ s=>.ok (.mk 5 [] uF v [] [] [] [l] 0) s else
  (jM L [82,69,80,69,65,84] s).bind fun b s=>if b=true then (mP f [[85,78,84,73,76]] s).bind fun l s=>(iy L [85,78,84,73,76] s).bind fun _ s=>(kH L f s).bind fun v s=>(iy L [69,78,68,95,82,69,80,69,65,84] s).bind fun _ s=>.ok (.mk 6 [] uF v [] [] [] [l] 0) s else
  (jM L [69,88,73,84] s).bind fun b s=>if b=true then .ok (abL 7) s else
  (jM L [82,69,84,85,82,78] s).bind fun b s=>if b=true then .ok (abL 8) s else
  (vT L 1 s).bind fun nm s=>(jM L [40] s).bind fun b s=>if b=true then Cj f nm.text s else
  (isS L [91] s).bind fun b s=>(if b=true then (uI L f s).bind fun x s=>.ok (Cg 4 nm.text [x] nm.line) s else .ok (WG nm) s).bind fun to s=>
  (iy L [58,61] s).bind fun _ s=>(kH L f s).bind fun v s=>.ok (.mk 1 [] to v [] [] [] [] 0) s
def qg:Nat→PS→PM Sm
 |0,_=>.out
 |f+1,s=>lP f [] [] s
def lP:Nat→List Ex→List (List Sm)→PS→PM Sm
 |0,_,_,_=>.out
 |f+1,c,l,s=>(kH L f s).bind fun x s=>(iy L [84,72,69,78] s).bind fun _ s=>(mP f [[69,76,83,73,70],[69,76,83,69],[69,78,68,95,73,70]] s).bind fun b s=>
  if c.length<100000∧l.length<100000 then (jM L [69,76,83,73,70] s).bind fun m s=>if m=true then lP f (c++[x]) (l++[b]) s else
   (jM L [69,76,83,69] s).bind fun m s=>(if m=true then (mP f [[69,78,68,95,73,70]] s).bind fun z s=>.ok (l++[b]++[z]) s else .ok (l++[b]) s).bind fun l s=>(iy L [69,78,68,95,73,70] s).bind fun _ s=>.ok (.mk 2 [] uF uF (c++[x]) [] [] l 0) s
  else .out
def ym:Nat→PS→PM Sm
 |0,_=>.out
 |f+1,s=>(kH L f s).bind fun v s=>(iy L [79,70] s).bind fun _ s=>rZ f v [] [] s
def rZ:Nat→Ex→List (List Int)→List (List Sm)→PS→PM Sm
 |0,_,_,_,_=>.out
 |f+1,v,c,l,s=>(Ep L s).bind fun b s=>
  if b=true then (J4 L f [] s).bind fun x s=>(vU f [] s).bind fun b s=>if c.length<100000∧l.length<100000 then rZ f v (c++[x]) (l++[b]) s else .out
  else (jM L [69,76,83,69] s).bind fun m s=>(if m=true then (mP f [[69,78,68,95,67,65,83,69]] s).bind fun z s=>if l.length<100000 then .ok (l++[z]) s else .out else .ok l s).bind fun l s=>(iy L [69,78,68,95,67,65,83,69] s).bind fun _ s=>.ok (.mk 3 [] uF v [] c [] l 0) s
def vU:Nat→List Sm→PS→PM (List Sm)
 |0,_,_=>.out
 |f+1,l,s=>(UE L s).bind fun b s=>if b=true then .ok l s else (y9 f s).bind fun x s=>if l.length<100000 then vU f (l++[x]) s else .out
def rY:Nat→PS→PM Sm
 |0,_=>.out
 |f+1,s=>(vT L 1 s).bind fun nm s=>(iy L [58,61] s).bind fun _ s=>(kH L f s).bind fun a s=>(iy L [84,79] s).bind fun _ s=>(kH L f s).bind fun b s=>
  (rW L s).bind fun t s=>(jM L [66,89] s).bind fun m s=>(if m=true then kH L f s else .ok (.mk 1 1 [] [] [] t.line) s).bind fun c s=>
  (iy L [68,79] s).bind fun _ s=>(mP f [[69,78,68,95,70,79,82]] s).bind fun l s=>(iy L [69,78,68,95,70,79,82] s).bind fun _ s=>.ok (.mk 4 nm.text uF uF [a,b,c] [] [] [l] 0) s
def Cj:Nat→Tx→PS→PM Sm
 |0,_,_=>.out
 |f+1,nm,s=>(jM L [41] s).bind fun b s=>if b=true then .ok (.mk 9 nm uF uF [] [] [] [] 0) s else vV f nm [] [] s
def vV:Nat→Tx→List Tx→List Ex→PS→PM Sm
 |0,_,_,_,_=>.out
 |f+1,nm,c,l,s=>(vT L 1 s).bind fun t s=>(iy L [58,61] s).bind fun _ s=>(kH L f s).bind fun x s=>
  if c.length<100000∧l.length<100000 then (jM L [44] s).bind fun b s=>if b=true then vV f nm (c++[t.text]) (l++[x]) s else (iy L [41] s).bind fun _ s=>.ok (.mk 9 nm uF uF (l++[x]) [] (c++[t.text]) [] 0) s
  else .out
end
end
def bR:Ex→Int| .mk a _ _ _ _ _=>a
def gY:Ex→Int| .mk _ a _ _ _ _=>a
def dA:Ex→Tx| .mk _ _ a _ _ _=>a
def fi:Ex→Tx| .mk _ _ _ a _ _=>a
def cK:Ex→List Ex| .mk _ _ _ _ a _=>a
def jC:Ex→Int| .mk _ _ _ _ _ a=>a
@[simp] theorem mQ{a b c d e f}:bR (.mk a b c d e f)=a:=rfl
@[simp] theorem uK{a b c d e f}:gY (.mk a b c d e f)=b:=rfl
@[simp] theorem yn{a b c d e f}:dA (.mk a b c d e f)=c:=rfl
@[simp] theorem Hi{a b c d e f}:fi (.mk a b c d e f)=d:=rfl
@[simp] theorem mR{a b c d e f}:cK (.mk a b c d e f)=e:=rfl
@[simp] theorem RD{a b c d e f}:jC (.mk a b c d e f)=f:=rfl
theorem WH(x:Ex):uE x=[.int .i64 (bR x),.int .i64 (gY x),.str (dA x),.str (fi x),.list ((cK x).map bJ),.int .i64 (jC x)]:=by cases x;simp[uE,rk]
theorem aD(x:Ex):bJ x=.agg [.int .i64 (bR x),.int .i64 (gY x),.str (dA x),.str (fi x),.list ((cK x).map bJ),.int .i64 (jC x)]:=by rw[Fp,WH]
def bA:Sm→Int| .mk a _ _ _ _ _ _ _ _=>a
def gR:Sm→Tx| .mk _ a _ _ _ _ _ _ _=>a
def eD:Sm→Ex| .mk _ _ a _ _ _ _ _ _=>a
def dF:Sm→Ex| .mk _ _ _ a _ _ _ _ _=>a
def cw:Sm→List Ex| .mk _ _ _ _ a _ _ _ _=>a
def dW:Sm→List (List Int)| .mk _ _ _ _ _ a _ _ _=>a
def dM:Sm→List Tx| .mk _ _ _ _ _ _ a _ _=>a
def bB:Sm→List (List Sm)| .mk _ _ _ _ _ _ _ a _=>a
def kp:Sm→Int| .mk _ _ _ _ _ _ _ _ a=>a
@[simp] theorem RE{a b c d e f g h i}:bA (.mk a b c d e f g h i)=a:=rfl
@[simp] theorem abM{a b c d e f g h i}:gR (.mk a b c d e f g h i)=b:=rfl
@[simp] theorem ar9{a b c d e f g h i}:eD (.mk a b c d e f g h i)=c:=rfl
@[simp] theorem asa{a b c d e f g h i}:dF (.mk a b c d e f g h i)=d:=rfl
@[simp] theorem RG{a b c d e f g h i}:cw (.mk a b c d e f g h i)=e:=rfl
@[simp] theorem apy{a b c d e f g h i}:dW (.mk a b c d e f g h i)=f:=rfl
@[simp] theorem RH{a b c d e f g h i}:dM (.mk a b c d e f g h i)=g:=rfl
@[simp] theorem abN{a b c d e f g h i}:bB (.mk a b c d e f g h i)=h:=rfl
@[simp] theorem asb{a b c d e f g h i}:kp (.mk a b c d e f g h i)=i:=rfl
def dc(l:List Sm):D:=.list (l.map b5)
theorem eI(x:Sm):b5 x=.agg [.int .i64 (bA x),.str (gR x),
 .int .i64 (bR (eD x)),.int .i64 (gY (eD x)),.str (dA (eD x)),.str (fi (eD x)),.list ((cK (eD x)).map bJ),.int .i64 (jC (eD x)),
 .int .i64 (bR (dF x)),.int .i64 (gY (dF x)),.str (dA (dF x)),.str (fi (dF x)),.list ((cK (dF x)).map bJ),.int .i64 (jC (dF x)),
 .list ((cw x).map bJ),.list ((dW x).map mq),.list ((dM x).map .str),.list ((bB x).map dc),.int .i64 (kp x)]:=by
 cases x;simp[b5,WH,rk,yY,dc]
def UF(c:UInt8):Bool:=(decide (65≤c.toNat)&&decide (c.toNat≤90))||(decide (97≤c.toNat)&&decide (c.toNat≤122))
def UG(c:UInt8):Bool:=decide (48≤c.toNat)&&decide (c.toNat≤57)
def sY:List UInt8→Nat→Bool
 |[],_=>true
 |c::r,i=>(UF c||(!decide (i=0)&&(decide (c=95)||UG c)))&&sY r (i+1)
def cY(s:Tx):Bool:=decide (1≤s.length)&&(decide (s.length≤16)&&(!sX s&&sY s 0))
structure Pn where
 name:Tx
 ty:Int
 J5:Bool
 deriving DecidableEq
def cU(p:Pn):D:=.agg [.str p.name,.int .i64 p.ty,.bool p.J5]
def jN(ins outs:List (Tx×Bool))(n:Nat):List Pn:=ins.map (fun x=>⟨x.1,if x.2 then 1 else 2,true⟩)++outs.map (fun x=>⟨x.1,if x.2 then 1 else 2,false⟩)++List.replicate n ⟨[],1,false⟩
def za:List (Tx×Bool):=[([68,111,110,101],false),([66,117,115,121],false),([65,99,116,105,118,101],false),([67,111,109,109,97,110,100,65,98,111,114,116,101,100],false),([69,114,114,111,114],false)]
def Hj:List (Int×List Pn):=[
 (10,jN [([73,78],false),([80,84],true)] [([81],false),([69,84],true)] 0),
 (11,jN [([73,78],false),([80,84],true)] [([81],false),([69,84],true)] 0),
 (12,jN [([73,78],false),([80,84],true)] [([81],false),([69,84],true)] 2),
 (13,jN [([67,85],false),([82],false),([80,86],true)] [([81],false),([67,86],true)] 1),
 (14,jN [([67,68],false),([76,68],false),([80,86],true)] [([81],false),([67,86],true)] 1),
 (15,jN [([67,76,75],false)] [([81],false)] 1),
 (16,jN [([67,76,75],false)] [([81],false)] 1),
 (17,jN [([83,49],false),([82],false)] [([81,49],false)] 0),
 (18,jN [([83],false),([82,49],false)] [([81,49],false)] 0),
 (20,jN [([65,120,105,115],true),([69,110,97,98,108,101],false)] [([83,116,97,116,117,115],false),([69,114,114,111,114],false)] 0),
 (21,jN [([65,120,105,115],true),([69,120,101,99,117,116,101],false)] za 2),
 (22,jN [([65,120,105,115],true),([69,120,101,99,117,116,101],false)] za 2),
 (23,jN [([65,120,105,115],true),([69,120,101,99,117,116,101],false)] za 2),
 (24,jN [([65,120,105,115],true),([69,120,101,99,117,116,101],false),([80,111,115,105,116,105,111,110],true),([86,101,108,111,99,105,116,121],true),([66,117,102,102,101,114,77,111,100,101],true)] za 2),
 (25,jN [([65,120,105,115],true),([69,120,101,99,117,116,101],false),([68,105,115,116,97,110,99,101],true),([86,101,108,111,99,105,116,121],true),([66,117,102,102,101,114,77,111,100,101],true)] za 2),
 (26,jN [([65,120,105,115],true),([69,120,101,99,117,116,101],false),([68,105,115,116,97,110,99,101],true),([86,101,108,111,99,105,116,121],true),([66,117,102,102,101,114,77,111,100,101],true)] za 2),
 (27,jN [([65,120,105,115],true),([69,120,101,99,117,116,101],false),([86,101,108,111,99,105,116,121],true)] [([73,110,86,101,108,111,99,105,116,121],false),([66,117,115,121],false),([65,99,116,105,118,101],false),([67,111,109,109,97,110,100,65,98,111,114,116,101,100],false),([69,114,114,111,114],false)] 2),
 (28,jN [([65,120,105,115],true),([69,120,101,99,117,116,101],false),([77,97,115,116,101,114],true),([78,117,109,101,114,97,116,111,114],true),([68,101,110,111,109,105,110,97,116,111,114],true)] [([73,110,71,101,97,114],false),([66,117,115,121],false),([65,99,116,105,118,101],false),([67,111,109,109,97,110,100,65,98,111,114,116,101,100],false),([69,114,114,111,114],false)] 2),
 (29,jN [([65,120,105,115],true),([69,120,101,99,117,116,101],false)] [([68,111,110,101],false),([69,114,114,111,114],false)] 1),
 (30,jN [([65,120,105,115],true),([69,120,101,99,117,116,101],false),([80,111,115,105,116,105,111,110],true)] [([68,111,110,101],false),([69,114,114,111,114],false)] 1),
 (31,jN [([65,120,105,115],true),([69,110,97,98,108,101],false),([80,101,114,99,101,110,116],true)] [([69,110,97,98,108,101,100],false)] 0)]
def q8:List (Int×List Pn)→Int→List Pn
 |[],_=>[]
 |(a,l)::r,k=>if a=k then l else q8 r k
def bz(k:Int):List Pn:=q8 Hj k
def vW:List Pn→Tx→Option Pn
 |[],_=>none
 |p::r,s=>if p.name=s∧s≠[]then some p else vW r s
def kJ(k:Int)(s:Tx):Option Pn:=vW (bz k) s
def bg:List Vr→Tx→Option Vr
 |[],_=>none
 |v::r,s=>if v.name=s then some v else bg r s
def bK(v:Vr):Int:=if v.arr=true then v.hi-v.lo+1 else if 2<v.ty then (bz v.ty).length else 1
structure Te where
 t:Int
 e:Int
 line:Int
 deriving DecidableEq
def eJ(t:Int):Te:=⟨t,0,0⟩
def cy(e line:Int):Te:=⟨0,e,line⟩
def fY(op t:Int):Int:=if op=6∨(8≤op∧op≤12)∨(15≤op∧op≤18)then 1 else if op=13∨op=14 then t else 2
def gF(op:Int):Int:=if op=6∨(8≤op∧op≤12)then 1 else 2
def b8(op line:Int)(a b:Te):Te:=
 if a.e≠0 then ⟨0,a.e,a.line⟩else if b.e≠0 then ⟨0,b.e,b.line⟩else
 if a.t≠fY op a.t∨b.t≠fY op a.t then cy 10 line else eJ (gF op)
theorem gS{op line:Int}{a b:Te}(h:(b8 op line a b).e=0):a.e=0∧b.e=0∧a.t=fY op a.t∧b.t=fY op a.t∧b8 op line a b=eJ (gF op):=by
 unfold b8 at h⊢;by_cases h1:a.e≠0
 ·rw[if_pos h1]at h;exact absurd h h1
 ·rw[if_neg h1]at h⊢;by_cases h2:b.e≠0
  ·rw[if_pos h2]at h;exact absurd h h2
  ·rw[if_neg h2]at h⊢;by_cases h3:a.t≠fY op a.t∨b.t≠fY op a.t
   ·rw[if_pos h3]at h;simp[cy]at h
   ·rw[if_neg h3];simp only[ne_eq,not_or,Decidable.not_not]at h1 h2 h3;exact⟨h1,h2,h3.1,h3.2,rfl⟩
mutual
def aF(vs:List Vr):Ex→Te
 | .mk op _ name field sub line=>
  if op=1∨op=2 then eJ op
  else if op=3∨op=4∨op=5 then
   match bg vs name with
   |none=>cy 9 line
   |some v=>
    if op=5 then (if v.ty≤2 then cy 10 line else match kJ v.ty field with
     |none=>cy 9 line
     |some p=>eJ p.ty)
    else if v.arr≠decide (op=4)∨2<v.ty then cy 10 line
    else if op=4 then uL vs v.ty sub
    else eJ v.ty
  else qH vs op line sub
def uL(vs:List Vr)(t:Int):List Ex→Te
 |[]=>eJ t
 |x::_=>if (aF vs x).e≠0 then cy (aF vs x).e (aF vs x).line else if (aF vs x).t≠1 then cy 10 (jC x)else eJ t
def qH(vs:List Vr)(op line:Int):List Ex→Te
 |[]=>eJ 0
 |[x]=>b8 op line (aF vs x) (aF vs x)
 |x::y::_=>b8 op line (aF vs x) (aF vs y)
end
def dj(vs:List Vr)(x:Ex)(t:Int):Int×Int:=if (aF vs x).e≠0 then ((aF vs x).e,(aF vs x).line)else if (aF vs x).t≠t then (10,jC x)else (0,0)
def WI(b:Int):Nat:=
 if b=10 then 4 else if b=11 then 4 else if b=12 then 6 else if b=13 then 6 else if b=14 then 6 else if b=15 then 3 else if b=16 then 3 else if b=17 then 3 else if b=18 then 3 else if b=20 then 4 else if b=21 then 9 else if b=22 then 9 else if b=23 then 9 else if b=24 then 12 else if b=25 then 12 else if b=26 then 12 else if b=27 then 10 else if b=28 then 12 else if b=29 then 5 else if b=30 then 6 else if b=31 then 4 else 0
def iG:List Int:=[10,11,12,13,14,15,16,17,18,20,21,22,23,24,25,26,27,28,29,30,31]
theorem q9{b:Int}(hb:b∉iG):bz b=[]:=by
 simp only[iG,List.mem_cons,List.not_mem_nil,or_false,not_or]at hb;obtain⟨h1,h2,h3,h4,h5,h6,h7,h8,h9,qI,Ck,kR,h13,h14,h15,Es,h17,h18,h19,h20,RI⟩:=hb;unfold bz Hj;simp only[q8,if_neg (Ne.symm h1),if_neg (Ne.symm h2),if_neg (Ne.symm h3),if_neg (Ne.symm h4),if_neg (Ne.symm h5),if_neg (Ne.symm h6),if_neg (Ne.symm h7),if_neg (Ne.symm h8),if_neg (Ne.symm h9),if_neg (Ne.symm qI),if_neg (Ne.symm Ck),if_neg (Ne.symm kR),if_neg (Ne.symm h13),if_neg (Ne.symm h14),if_neg (Ne.symm h15),if_neg (Ne.symm Es),if_neg (Ne.symm h17),if_neg (Ne.symm h18),if_neg (Ne.symm h19),if_neg (Ne.symm h20),if_neg (Ne.symm RI)]
theorem yo(b:Int):(bz b).length≤20:=by
 by_cases hb:b∈iG
 ·simp only[iG,List.mem_cons,List.not_mem_nil,or_false]at hb;rcases hb with rfl|rfl|rfl|rfl|rfl|rfl|rfl|rfl|rfl|rfl|rfl|rfl|rfl|rfl|rfl|rfl|rfl|rfl|rfl|rfl|rfl<;>decide
 ·rw[q9 hb];decide
def WJ(x:ar)(n:Int):Bool:=decide (x.n≤n)&&decide (n≤x.m)
def wO(C:List Int)(k:Int):Int:=C[k.toNat]?.getD 0
def af6(C:List Int)(x:ar):Bool:=decide (0≤wO C (x.b+1)∧wO C x.a≤wO C x.b)||decide (wO C (x.b+1)<0∧wO C x.b≤wO C x.a)
structure Ms where
 cells:List Int
 RJ:List Int
 at_:Int
 fuel:Int
 fault:Int
def Ms.pop(s:Ms):Ms:={s with RJ:=s.RJ.dropLast}
def Ms.push(s:Ms)(n:Int):Ms:={s with RJ:=s.RJ++[n]}
def Ms.top(s:Ms):Int:=s.RJ.getLast?.getD 0
def abP(C:List Int)(k n:Int):List Int:=C.set k.toNat n
def af7(x:ar)(s:Ms):Option Ms:=
 if x.op=1 then some (s.push x.n)
 else if x.op=2 then some (s.push (wO s.cells x.a))
 else if x.op=3 then some (s.push (dI (decide (wO s.cells x.a≠0))))
 else if x.op=4∨x.op=5 then
  (if WJ x s.top=true then some (s.pop.push (if x.op=4 then wO s.cells (x.a+(s.top-x.n))else dI (decide (wO s.cells (x.a+(s.top-x.n))≠0))))else some {s.pop with fault:=3})
 else if x.op=6 then some {s.pop with cells:=abP s.cells x.a s.top}
 else if x.op=7 then
  (if WJ x s.pop.top=true then some {s.pop.pop with cells:=abP s.cells (x.a+(s.pop.top-x.n)) s.top} else some {s.pop.pop with fault:=3})
 else none
def doF(x:ar)(s:Ms):Ms:=
 if x.b=6∨x.b=7 then
  (if (qG x.b s.top (decide (x.a=1))).2.2=0 then s.pop.push (qG x.b s.top (decide (x.a=1))).1 else {s.pop with fault:=(qG x.b s.top (decide (x.a=1))).2.2})
 else
  (if (uB x.b s.pop.top s.top (decide (x.a=1))).2.2=0 then s.pop.pop.push (uB x.b s.pop.top s.top (decide (x.a=1))).1 else {s.pop.pop with fault:=(uB x.b s.pop.top s.top (decide (x.a=1))).2.2})
def abQ(x:ar)(C:List Int):List Int:=C.take x.a.toNat++af3 x.b ((C.drop x.a.toNat).take (WI x.b))++C.drop (x.a.toNat+WI x.b)
def ak6(x:ar)(s:Ms):Ms:=
 if x.op=8 then doF x s
 else if x.op=9 then {s with at_:=x.a}
 else if x.op=10 then (if s.top=0 then {s.pop with at_:=x.a} else s.pop)
 else if x.op=11 then (if s.fuel=0 then {s with fault:=4} else {s with fuel:=s.fuel-1})
 else if x.op=12 then {s with cells:=abQ x s.cells}
 else if x.op=13 then s.push (dI (af6 s.cells x))
 else if x.op=14 then s.push (dI (decide (x.n≤wO s.cells x.a∧wO s.cells x.a≤x.m)))
 else s
def af8(x:ar)(s:Ms):Ms:=
 match af7 x {s with at_:=s.at_+1} with
 |some t=>t
 |none=>ak6 x {s with at_:=s.at_+1}
inductive Fq(l:List ar):Ms→Ms→Prop
 |fault (s:Ms) (h:s.fault≠0):Fq l s s
 |fin (s:Ms) (x:ar) (h0:s.fault=0) (hx:l[s.at_.toNat]?=some x) (h:x.op=15):Fq l s s
 |step (s:Ms) (x:ar) (t:Ms) (h0:s.fault=0) (hx:l[s.at_.toNat]?=some x) (h:x.op≠15) (h':Fq l (af8 x s) t):Fq l s t
end Go.Am
end
section
namespace Go.Am
open Go
open Go.Proofs
abbrev T2(t:Nat)(k:TK)(s:Nat):Prop:=tk Tryz.prog t=k∧fe Tryz.prog t=some s
abbrev T3(t:Nat)(k:TK)(s:Nat)(z:List AV):Prop:=T2 t k s∧sw Tryz.prog t=some z
abbrev T5(t:Nat)(k:TK)(s:Nat)(z:List AV)(b:Nat)(d:D):Prop:=T3 t k s z∧xc Tryz.prog t=some b∧lD Tryz.prog t=some d
abbrev FF(t i o y:Nat):Prop:=vd Tryz.prog t i=some o∧Ge Tryz.prog t i=some y
@[simp] theorem avX:T2 1 (.func) 1:=by and_intros<;>kernel_rfl
@[simp] theorem avY:T5 2 (.int .i64) 1 ([.d (.int .i64 0)]) 8 (.int .i64 0):=by and_intros<;>kernel_rfl
@[simp] theorem avZ:T5 3 (.int .i64) 1 ([.d (.int .i64 0)]) 8 (.int .i64 0):=by and_intros<;>kernel_rfl
@[simp] theorem av0:T5 4 (.bool) 1 ([.d (.bool false)]) 1 (.bool false):=by and_intros<;>kernel_rfl
@[simp] theorem av1:T5 5 (.int .u8) 1 ([.d (.int .u8 0)]) 1 (.int .u8 0):=by and_intros<;>kernel_rfl
@[simp] theorem av2:T5 6 (.int .u8) 1 ([.d (.int .u8 0)]) 1 (.int .u8 0):=by and_intros<;>kernel_rfl
@[simp] theorem av3:T5 7 (.struct) 4 ([.d (.int .i64 0),.d (.int .i64 0),.d (.bool false),.d (.int .u8 0)]) 24 (.agg ([.int .i64 0,.int .i64 0,.bool false,.int .u8 0])):=by and_intros<;>kernel_rfl
@[simp] theorem asj:FF 7 0 0 2:=by and_intros<;>kernel_rfl
@[simp] theorem asl:FF 7 1 1 3:=by and_intros<;>kernel_rfl
@[simp] theorem asm:FF 7 2 2 4:=by and_intros<;>kernel_rfl
@[simp] theorem asn:FF 7 3 3 6:=by and_intros<;>kernel_rfl
@[simp] theorem ak7:bu Tryz.prog 7=some [(0,1),(1,1),(2,1),(3,1)]:=by kernel_rfl
@[simp] theorem av4:T5 8 (.struct) 4 ([.d (.int .i64 0),.d (.int .i64 0),.d (.bool false),.d (.int .u8 0)]) 24 (.agg ([.int .i64 0,.int .i64 0,.bool false,.int .u8 0])):=by and_intros<;>kernel_rfl
@[simp] theorem aso:FF 8 0 0 2:=by and_intros<;>kernel_rfl
@[simp] theorem asp:FF 8 1 1 3:=by and_intros<;>kernel_rfl
@[simp] theorem asq:FF 8 2 2 4:=by and_intros<;>kernel_rfl
@[simp] theorem asr:FF 8 3 3 6:=by and_intros<;>kernel_rfl
@[simp] theorem ak8:bu Tryz.prog 8=some [(0,1),(1,1),(2,1),(3,1)]:=by kernel_rfl
@[simp] theorem av5:T5 9 (.str) 1 ([.d (.str [])]) 16 (.str []):=by and_intros<;>kernel_rfl
@[simp] theorem apz:eH Tryz.prog 9=true:=by kernel_rfl
@[simp] theorem auM:T5 10 (.str) 1 ([.d (.str [])]) 16 (.str []):=by and_intros<;>kernel_rfl
@[simp] theorem ak9:eH Tryz.prog 10=true:=by kernel_rfl
@[simp] theorem auN:T5 11 (.str) 1 ([.d (.str [])]) 16 (.str []):=by and_intros<;>kernel_rfl
@[simp] theorem ala:eH Tryz.prog 11=true:=by kernel_rfl
@[simp] theorem auO:T5 12 (.int .u64) 1 ([.d (.int .u64 0)]) 8 (.int .u64 0):=by and_intros<;>kernel_rfl
@[simp] theorem auP:T5 13 (.struct) 2 ([.d (.str []),.d (.int .u64 0)]) 24 (.agg ([.str [],.int .u64 0])):=by and_intros<;>kernel_rfl
@[simp] theorem apA:FF 13 0 0 9:=by and_intros<;>kernel_rfl
@[simp] theorem apB:FF 13 1 1 12:=by and_intros<;>kernel_rfl
@[simp] theorem ajd:bu Tryz.prog 13=some [(0,1),(1,1)]:=by kernel_rfl
@[simp] theorem auQ:T5 14 (.struct) 2 ([.d (.str []),.d (.int .u64 0)]) 24 (.agg ([.str [],.int .u64 0])):=by and_intros<;>kernel_rfl
@[simp] theorem apC:FF 14 0 0 9:=by and_intros<;>kernel_rfl
@[simp] theorem apD:FF 14 1 1 12:=by and_intros<;>kernel_rfl
@[simp] theorem aje:bu Tryz.prog 14=some [(0,1),(1,1)]:=by kernel_rfl
@[simp] theorem auR:T2 15 (.ptr 368) 1:=by and_intros<;>kernel_rfl
@[simp] theorem auS:T2 16 (.ptr 371) 1:=by and_intros<;>kernel_rfl
@[simp] theorem auT:T2 17 (.ptr 379) 1:=by and_intros<;>kernel_rfl
@[simp] theorem auU:T3 18 (.struct) 1 ([.lit (.pointer none)]):=by and_intros<;>kernel_rfl
@[simp] theorem apE:FF 18 0 0 17:=by and_intros<;>kernel_rfl
@[simp] theorem ajf:bu Tryz.prog 18=some [(0,1)]:=by kernel_rfl
@[simp] theorem auV:T3 19 (.struct) 1 ([.lit (.pointer none)]):=by and_intros<;>kernel_rfl
@[simp] theorem apF:FF 19 0 0 17:=by and_intros<;>kernel_rfl
@[simp] theorem ajg:bu Tryz.prog 19=some [(0,1)]:=by kernel_rfl
@[simp] theorem auW:T2 20 (.iface) 1:=by and_intros<;>kernel_rfl
@[simp] theorem auX:T5 21 (.int .i32) 1 ([.d (.int .i32 0)]) 4 (.int .i32 0):=by and_intros<;>kernel_rfl
@[simp] theorem auY:T5 22 (.slice 71) 1 ([.lit (.slice none 0 0)]) 24 (.list []):=by and_intros<;>kernel_rfl
@[simp] theorem alb:eH Tryz.prog 22=true:=by kernel_rfl
@[simp] theorem auZ:T5 23 (.slice 141) 1 ([.lit (.slice none 0 0)]) 24 (.list []):=by and_intros<;>kernel_rfl
@[simp] theorem alc:eH Tryz.prog 23=true:=by kernel_rfl
@[simp] theorem au0:T5 24 (.struct) 3 ([.d (.str []),.lit (.slice none 0 0),.lit (.slice none 0 0)]) 64 (.agg ([.str [],.list [],.list []])):=by and_intros<;>kernel_rfl
@[simp] theorem apG:FF 24 0 0 9:=by and_intros<;>kernel_rfl
@[simp] theorem apH:FF 24 1 1 22:=by and_intros<;>kernel_rfl
@[simp] theorem apI:FF 24 2 2 23:=by and_intros<;>kernel_rfl
@[simp] theorem ajh:bu Tryz.prog 24=some [(0,1),(1,1),(2,1)]:=by kernel_rfl
@[simp] theorem au1:T5 25 (.struct) 3 ([.d (.str []),.lit (.slice none 0 0),.lit (.slice none 0 0)]) 64 (.agg ([.str [],.list [],.list []])):=by and_intros<;>kernel_rfl
@[simp] theorem apJ:FF 25 0 0 9:=by and_intros<;>kernel_rfl
@[simp] theorem apK:FF 25 1 1 22:=by and_intros<;>kernel_rfl
@[simp] theorem apL:FF 25 2 2 23:=by and_intros<;>kernel_rfl
@[simp] theorem aji:bu Tryz.prog 25=some [(0,1),(1,1),(2,1)]:=by kernel_rfl
@[simp] theorem au2:T2 26 (.func) 1:=by and_intros<;>kernel_rfl
@[simp] theorem au3:T2 27 (.func) 1:=by and_intros<;>kernel_rfl
@[simp] theorem au4:T5 28 (.struct) 2 ([.d (.int .i64 0),.d (.int .i64 0)]) 16 (.agg ([.int .i64 0,.int .i64 0])):=by and_intros<;>kernel_rfl
@[simp] theorem apM:FF 28 0 0 3:=by and_intros<;>kernel_rfl
@[simp] theorem apN:FF 28 1 1 3:=by and_intros<;>kernel_rfl
@[simp] theorem ajj:bu Tryz.prog 28=some [(0,1),(1,1)]∧cj Tryz.prog 28=some [.int .i64,.int .i64]:=by and_intros<;>kernel_rfl
@[simp] theorem au5:T5 29 (.struct) 2 ([.d (.int .i64 0),.d (.int .i64 0)]) 16 (.agg ([.int .i64 0,.int .i64 0])):=by and_intros<;>kernel_rfl
@[simp] theorem apO:FF 29 0 0 3:=by and_intros<;>kernel_rfl
@[simp] theorem apP:FF 29 1 1 3:=by and_intros<;>kernel_rfl
@[simp] theorem ajk:bu Tryz.prog 29=some [(0,1),(1,1)]∧cj Tryz.prog 29=some [.int .i64,.int .i64]:=by and_intros<;>kernel_rfl
@[simp] theorem au6:T2 30 (.func) 1:=by and_intros<;>kernel_rfl
@[simp] theorem au7:T5 31 (.slice 56) 1 ([.lit (.slice none 0 0)]) 24 (.list []):=by and_intros<;>kernel_rfl
@[simp] theorem ald:eH Tryz.prog 31=true:=by kernel_rfl
@[simp] theorem au8:T5 32 (.struct) 3 ([.lit (.slice none 0 0),.d (.int .i64 0),.d (.int .i64 0)]) 40 (.agg ([.list [],.int .i64 0,.int .i64 0])):=by and_intros<;>kernel_rfl
@[simp] theorem apQ:FF 32 0 0 31:=by and_intros<;>kernel_rfl
@[simp] theorem apR:FF 32 1 1 3:=by and_intros<;>kernel_rfl
@[simp] theorem apS:FF 32 2 2 3:=by and_intros<;>kernel_rfl
@[simp] theorem ajl:bu Tryz.prog 32=some [(0,1),(1,1),(2,1)]:=by kernel_rfl
@[simp] theorem au9:T5 33 (.struct) 3 ([.lit (.slice none 0 0),.d (.int .i64 0),.d (.int .i64 0)]) 40 (.agg ([.list [],.int .i64 0,.int .i64 0])):=by and_intros<;>kernel_rfl
@[simp] theorem apT:FF 33 0 0 31:=by and_intros<;>kernel_rfl
@[simp] theorem apU:FF 33 1 1 3:=by and_intros<;>kernel_rfl
@[simp] theorem apV:FF 33 2 2 3:=by and_intros<;>kernel_rfl
@[simp] theorem ajm:bu Tryz.prog 33=some [(0,1),(1,1),(2,1)]:=by kernel_rfl
@[simp] theorem ava:T5 34 (.int .i64) 1 ([.d (.int .i64 0)]) 8 (.int .i64 0):=by and_intros<;>kernel_rfl
@[simp] theorem avb:T2 36 (.func) 1:=by and_intros<;>kernel_rfl
@[simp] theorem avc:T5 38 (.slice 5) 1 ([.lit (.slice none 0 0)]) 24 (.list []):=by and_intros<;>kernel_rfl
@[simp] theorem ale:eH Tryz.prog 38=true:=by kernel_rfl
@[simp] theorem avd:T5 45 (.slice 2) 1 ([.lit (.slice none 0 0)]) 24 (.list []):=by and_intros<;>kernel_rfl
@[simp] theorem alf:eH Tryz.prog 45=true:=by kernel_rfl
@[simp] theorem ave:T2 46 (.func) 1:=by and_intros<;>kernel_rfl
@[simp] theorem avf:T5 48 (.struct) 3 ([.lit (.slice none 0 0),.d (.int .i64 0),.d (.int .i64 0)]) 40 (.agg ([.list [],.int .i64 0,.int .i64 0])):=by and_intros<;>kernel_rfl
@[simp] theorem apW:FF 48 0 0 45:=by and_intros<;>kernel_rfl
@[simp] theorem apX:FF 48 1 1 3:=by and_intros<;>kernel_rfl
@[simp] theorem apY:FF 48 2 2 3:=by and_intros<;>kernel_rfl
@[simp] theorem ajn:bu Tryz.prog 48=some [(0,1),(1,1),(2,1)]:=by kernel_rfl
@[simp] theorem avg:T5 55 (.struct) 5 ([.d (.int .i64 0),.d (.int .i64 0),.d (.int .i64 0),.d (.int .i64 0),.d (.int .i64 0)]) 40 (.agg ([.int .i64 0,.int .i64 0,.int .i64 0,.int .i64 0,.int .i64 0])):=by and_intros<;>kernel_rfl
@[simp] theorem apZ:FF 55 0 0 3:=by and_intros<;>kernel_rfl
@[simp] theorem ap0:FF 55 1 1 3:=by and_intros<;>kernel_rfl
@[simp] theorem ap1:FF 55 2 2 3:=by and_intros<;>kernel_rfl
@[simp] theorem ap2:FF 55 3 3 2:=by and_intros<;>kernel_rfl
@[simp] theorem ap3:FF 55 4 4 2:=by and_intros<;>kernel_rfl
@[simp] theorem ajo:bu Tryz.prog 55=some [(0,1),(1,1),(2,1),(3,1),(4,1)]∧cj Tryz.prog 55=some [.int .i64,.int .i64,.int .i64,.int .i64,.int .i64]:=by and_intros<;>kernel_rfl
@[simp] theorem avh:T5 56 (.struct) 5 ([.d (.int .i64 0),.d (.int .i64 0),.d (.int .i64 0),.d (.int .i64 0),.d (.int .i64 0)]) 40 (.agg ([.int .i64 0,.int .i64 0,.int .i64 0,.int .i64 0,.int .i64 0])):=by and_intros<;>kernel_rfl
@[simp] theorem ap4:FF 56 0 0 3:=by and_intros<;>kernel_rfl
@[simp] theorem ap5:FF 56 1 1 3:=by and_intros<;>kernel_rfl
@[simp] theorem ap6:FF 56 2 2 3:=by and_intros<;>kernel_rfl
@[simp] theorem ap7:FF 56 3 3 2:=by and_intros<;>kernel_rfl
@[simp] theorem ap8:FF 56 4 4 2:=by and_intros<;>kernel_rfl
@[simp] theorem ajp:bu Tryz.prog 56=some [(0,1),(1,1),(2,1),(3,1),(4,1)]∧cj Tryz.prog 56=some [.int .i64,.int .i64,.int .i64,.int .i64,.int .i64]:=by and_intros<;>kernel_rfl
@[simp] theorem avi:T2 57 (.func) 1:=by and_intros<;>kernel_rfl
@[simp] theorem avj:T5 62 (.struct) 5 ([.d (.int .i64 0),.d (.str []),.d (.int .i64 0),.d (.int .i64 0),.d (.int .i64 0)]) 48 (.agg ([.int .i64 0,.str [],.int .i64 0,.int .i64 0,.int .i64 0])):=by and_intros<;>kernel_rfl
@[simp] theorem ap9:FF 62 0 0 3:=by and_intros<;>kernel_rfl
@[simp] theorem aqa:FF 62 1 1 9:=by and_intros<;>kernel_rfl
@[simp] theorem aqb:FF 62 2 2 2:=by and_intros<;>kernel_rfl
@[simp] theorem aqc:FF 62 3 3 3:=by and_intros<;>kernel_rfl
@[simp] theorem aqd:FF 62 4 4 3:=by and_intros<;>kernel_rfl
@[simp] theorem ajq:bu Tryz.prog 62=some [(0,1),(1,1),(2,1),(3,1),(4,1)]∧cj Tryz.prog 62=some [.int .i64,.str,.int .i64,.int .i64,.int .i64]:=by and_intros<;>kernel_rfl
@[simp] theorem avk:T5 63 (.struct) 5 ([.d (.int .i64 0),.d (.str []),.d (.int .i64 0),.d (.int .i64 0),.d (.int .i64 0)]) 48 (.agg ([.int .i64 0,.str [],.int .i64 0,.int .i64 0,.int .i64 0])):=by and_intros<;>kernel_rfl
@[simp] theorem aqe:FF 63 0 0 3:=by and_intros<;>kernel_rfl
@[simp] theorem aqf:FF 63 1 1 9:=by and_intros<;>kernel_rfl
@[simp] theorem aqg:FF 63 2 2 2:=by and_intros<;>kernel_rfl
@[simp] theorem aqh:FF 63 3 3 3:=by and_intros<;>kernel_rfl
@[simp] theorem aqi:FF 63 4 4 3:=by and_intros<;>kernel_rfl
@[simp] theorem ajr:bu Tryz.prog 63=some [(0,1),(1,1),(2,1),(3,1),(4,1)]∧cj Tryz.prog 63=some [.int .i64,.str,.int .i64,.int .i64,.int .i64]:=by and_intros<;>kernel_rfl
@[simp] theorem avl:T2 65 (.func) 1:=by and_intros<;>kernel_rfl
@[simp] theorem avm:T2 66 (.func) 1:=by and_intros<;>kernel_rfl
@[simp] theorem avn:T5 70 (.struct) 8 ([.d (.str []),.d (.int .i64 0),.d (.int .i64 0),.d (.bool false),.d (.int .i64 0),.d (.int .i64 0),.d (.int .i64 0),.d (.int .i64 0)]) 72 (.agg ([.str [],.int .i64 0,.int .i64 0,.bool false,.int .i64 0,.int .i64 0,.int .i64 0,.int .i64 0])):=by and_intros<;>kernel_rfl
@[simp] theorem aqj:FF 70 0 0 9:=by and_intros<;>kernel_rfl
@[simp] theorem aqk:FF 70 1 1 3:=by and_intros<;>kernel_rfl
@[simp] theorem aql:FF 70 2 2 3:=by and_intros<;>kernel_rfl
@[simp] theorem aqm:FF 70 3 3 4:=by and_intros<;>kernel_rfl
@[simp] theorem aqn:FF 70 4 4 2:=by and_intros<;>kernel_rfl
@[simp] theorem aqo:FF 70 5 5 2:=by and_intros<;>kernel_rfl
@[simp] theorem aqp:FF 70 6 6 2:=by and_intros<;>kernel_rfl
@[simp] theorem aqq:FF 70 7 7 3:=by and_intros<;>kernel_rfl
@[simp] theorem ajs:bu Tryz.prog 70=some [(0,1),(1,1),(2,1),(3,1),(4,1),(5,1),(6,1),(7,1)]∧cj Tryz.prog 70=some [.str,.int .i64,.int .i64,.bool,.int .i64,.int .i64,.int .i64,.int .i64]:=by and_intros<;>kernel_rfl
@[simp] theorem avo:T5 71 (.struct) 8 ([.d (.str []),.d (.int .i64 0),.d (.int .i64 0),.d (.bool false),.d (.int .i64 0),.d (.int .i64 0),.d (.int .i64 0),.d (.int .i64 0)]) 72 (.agg ([.str [],.int .i64 0,.int .i64 0,.bool false,.int .i64 0,.int .i64 0,.int .i64 0,.int .i64 0])):=by and_intros<;>kernel_rfl
@[simp] theorem aqr:FF 71 0 0 9:=by and_intros<;>kernel_rfl
@[simp] theorem aqs:FF 71 1 1 3:=by and_intros<;>kernel_rfl
@[simp] theorem aqt:FF 71 2 2 3:=by and_intros<;>kernel_rfl
@[simp] theorem aqu:FF 71 3 3 4:=by and_intros<;>kernel_rfl
@[simp] theorem aqv:FF 71 4 4 2:=by and_intros<;>kernel_rfl
@[simp] theorem aqw:FF 71 5 5 2:=by and_intros<;>kernel_rfl
@[simp] theorem aqx:FF 71 6 6 2:=by and_intros<;>kernel_rfl
@[simp] theorem aqy:FF 71 7 7 3:=by and_intros<;>kernel_rfl
@[simp] theorem ajt:bu Tryz.prog 71=some [(0,1),(1,1),(2,1),(3,1),(4,1),(5,1),(6,1),(7,1)]∧cj Tryz.prog 71=some [.str,.int .i64,.int .i64,.bool,.int .i64,.int .i64,.int .i64,.int .i64]:=by and_intros<;>kernel_rfl
@[simp] theorem avp:T5 77 (.slice 3) 1 ([.lit (.slice none 0 0)]) 24 (.list []):=by and_intros<;>kernel_rfl
@[simp] theorem alg:eH Tryz.prog 77=true:=by kernel_rfl
@[simp] theorem avq:T5 78 (.struct) 3 ([.lit (.slice none 0 0),.d (.int .i64 0),.lit (.slice none 0 0)]) 56 (.agg ([.list [],.int .i64 0,.list []])):=by and_intros<;>kernel_rfl
@[simp] theorem aqz:FF 78 0 0 77:=by and_intros<;>kernel_rfl
@[simp] theorem aqA:FF 78 1 1 3:=by and_intros<;>kernel_rfl
@[simp] theorem aqB:FF 78 2 2 45:=by and_intros<;>kernel_rfl
@[simp] theorem aju:bu Tryz.prog 78=some [(0,1),(1,1),(2,1)]:=by kernel_rfl
@[simp] theorem avr:T5 79 (.struct) 3 ([.lit (.slice none 0 0),.d (.int .i64 0),.lit (.slice none 0 0)]) 56 (.agg ([.list [],.int .i64 0,.list []])):=by and_intros<;>kernel_rfl
@[simp] theorem aqC:FF 79 0 0 77:=by and_intros<;>kernel_rfl
@[simp] theorem aqD:FF 79 1 1 3:=by and_intros<;>kernel_rfl
@[simp] theorem aqE:FF 79 2 2 45:=by and_intros<;>kernel_rfl
@[simp] theorem ajv:bu Tryz.prog 79=some [(0,1),(1,1),(2,1)]:=by kernel_rfl
@[simp] theorem avt:T2 81 (.ptr 84) 1:=by and_intros<;>kernel_rfl
@[simp] theorem avu:T5 82 (.slice 77) 1 ([.lit (.slice none 0 0)]) 24 (.list []):=by and_intros<;>kernel_rfl
@[simp] theorem alh:eH Tryz.prog 82=true:=by kernel_rfl
@[simp] theorem avv:T5 83 (.struct) 9 ([.d (.str []),.lit (.slice none 0 0),.lit (.slice none 0 0),.lit (.slice none 0 0),.d (.int .i64 0),.d (.int .i64 0),.d (.int .i64 0),.lit (.slice none 0 0),.lit (.slice none 0 0)]) 160 (.agg ([.str [],.list [],.list [],.list [],.int .i64 0,.int .i64 0,.int .i64 0,.list [],.list []])):=by and_intros<;>kernel_rfl
@[simp] theorem aqF:FF 83 0 0 25:=by and_intros<;>kernel_rfl
@[simp] theorem aqG:FF 83 1 3 31:=by and_intros<;>kernel_rfl
@[simp] theorem aqH:FF 83 2 4 3:=by and_intros<;>kernel_rfl
@[simp] theorem aqI:FF 83 3 5 3:=by and_intros<;>kernel_rfl
@[simp] theorem aqJ:FF 83 4 6 3:=by and_intros<;>kernel_rfl
@[simp] theorem aqK:FF 83 5 7 82:=by and_intros<;>kernel_rfl
@[simp] theorem aqL:FF 83 6 8 77:=by and_intros<;>kernel_rfl
@[simp] theorem ajw:bu Tryz.prog 83=some [(0,3),(3,1),(4,1),(5,1),(6,1),(7,1),(8,1)]:=by kernel_rfl
@[simp] theorem avw:T5 84 (.struct) 9 ([.d (.str []),.lit (.slice none 0 0),.lit (.slice none 0 0),.lit (.slice none 0 0),.d (.int .i64 0),.d (.int .i64 0),.d (.int .i64 0),.lit (.slice none 0 0),.lit (.slice none 0 0)]) 160 (.agg ([.str [],.list [],.list [],.list [],.int .i64 0,.int .i64 0,.int .i64 0,.list [],.list []])):=by and_intros<;>kernel_rfl
@[simp] theorem aqM:FF 84 0 0 25:=by and_intros<;>kernel_rfl
@[simp] theorem aqN:FF 84 1 3 31:=by and_intros<;>kernel_rfl
@[simp] theorem aqO:FF 84 2 4 3:=by and_intros<;>kernel_rfl
@[simp] theorem aqP:FF 84 3 5 3:=by and_intros<;>kernel_rfl
@[simp] theorem aqQ:FF 84 4 6 3:=by and_intros<;>kernel_rfl
@[simp] theorem aqR:FF 84 5 7 82:=by and_intros<;>kernel_rfl
@[simp] theorem aqS:FF 84 6 8 77:=by and_intros<;>kernel_rfl
@[simp] theorem ajx:bu Tryz.prog 84=some [(0,3),(3,1),(4,1),(5,1),(6,1),(7,1),(8,1)]:=by kernel_rfl
@[simp] theorem avx:T5 89 (.slice 4) 1 ([.lit (.slice none 0 0)]) 24 (.list []):=by and_intros<;>kernel_rfl
@[simp] theorem ali:eH Tryz.prog 89=true:=by kernel_rfl
@[simp] theorem avy:T5 90 (.struct) 5 ([.lit (.slice none 0 0),.d (.int .i64 0),.d (.int .i64 0),.lit (.slice none 0 0),.lit (.slice none 0 0)]) 88 (.agg ([.list [],.int .i64 0,.int .i64 0,.list [],.list []])):=by and_intros<;>kernel_rfl
@[simp] theorem aqT:FF 90 0 0 33:=by and_intros<;>kernel_rfl
@[simp] theorem aqU:FF 90 1 3 89:=by and_intros<;>kernel_rfl
@[simp] theorem aqV:FF 90 2 4 89:=by and_intros<;>kernel_rfl
@[simp] theorem ajy:bu Tryz.prog 90=some [(0,3),(3,1),(4,1)]:=by kernel_rfl
@[simp] theorem avz:T5 94 (.struct) 2 ([.lit (.slice none 0 0),.d (.int .i64 0)]) 32 (.agg ([.list [],.int .i64 0])):=by and_intros<;>kernel_rfl
@[simp] theorem aqW:FF 94 0 0 38:=by and_intros<;>kernel_rfl
@[simp] theorem aqX:FF 94 1 1 34:=by and_intros<;>kernel_rfl
@[simp] theorem ajz:bu Tryz.prog 94=some [(0,1),(1,1)]:=by kernel_rfl
@[simp] theorem avA:T5 95 (.struct) 2 ([.lit (.slice none 0 0),.d (.int .i64 0)]) 32 (.agg ([.list [],.int .i64 0])):=by and_intros<;>kernel_rfl
@[simp] theorem aqY:FF 95 0 0 38:=by and_intros<;>kernel_rfl
@[simp] theorem aqZ:FF 95 1 1 34:=by and_intros<;>kernel_rfl
@[simp] theorem ajA:bu Tryz.prog 95=some [(0,1),(1,1)]:=by kernel_rfl
@[simp] theorem avB:T5 96 (.int .u64) 1 ([.d (.int .u64 0)]) 8 (.int .u64 0):=by and_intros<;>kernel_rfl
@[simp] theorem avC:T2 97 (.func) 1:=by and_intros<;>kernel_rfl
@[simp] theorem avD:T2 99 (.func) 1:=by and_intros<;>kernel_rfl
@[simp] theorem ass:T2 100 (.func) 1:=by and_intros<;>kernel_rfl
@[simp] theorem ast:T5 103 (.int .u16) 1 ([.d (.int .u16 0)]) 2 (.int .u16 0):=by and_intros<;>kernel_rfl
@[simp] theorem asu:T2 105 (.func) 1:=by and_intros<;>kernel_rfl
@[simp] theorem asv:T5 111 (.arr 64 2) 64 (List.replicate 64 (.d (.int .i64 0))) 512 (.agg (List.replicate 64 (.int .i64 0))):=by and_intros<;>kernel_rfl
@[simp] theorem af9:bu Tryz.prog 111=none:=by kernel_rfl
@[simp] theorem asw:T5 116 (.slice 119) 1 ([.lit (.slice none 0 0)]) 24 (.list []):=by and_intros<;>kernel_rfl
@[simp] theorem ajB:eH Tryz.prog 116=true:=by kernel_rfl
@[simp] theorem asx:T5 119 (.slice 175) 1 ([.lit (.slice none 0 0)]) 24 (.list []):=by and_intros<;>kernel_rfl
@[simp] theorem ajC:eH Tryz.prog 119=true:=by kernel_rfl
@[simp] theorem asy:T5 122 (.struct) 7 ([.d (.str []),.lit (.slice none 0 0),.lit (.slice none 0 0),.lit (.slice none 0 0),.lit (.slice none 0 0),.lit (.slice none 0 0),.d (.int .i64 0)]) 144 (.agg ([.str [],.list [],.list [],.list [],.list [],.list [],.int .i64 0])):=by and_intros<;>kernel_rfl
@[simp] theorem alj:FF 122 0 0 25:=by and_intros<;>kernel_rfl
@[simp] theorem alk:FF 122 1 3 77:=by and_intros<;>kernel_rfl
@[simp] theorem alm:FF 122 2 4 116:=by and_intros<;>kernel_rfl
@[simp] theorem aln:FF 122 3 5 45:=by and_intros<;>kernel_rfl
@[simp] theorem alo:FF 122 4 6 3:=by and_intros<;>kernel_rfl
@[simp] theorem aga:bu Tryz.prog 122=some [(0,3),(3,1),(4,1),(5,1),(6,1)]:=by kernel_rfl
@[simp] theorem asz:T2 128 (.func) 1:=by and_intros<;>kernel_rfl
@[simp] theorem asA:T2 133 (.func) 1:=by and_intros<;>kernel_rfl
@[simp] theorem asB:T5 134 (.slice 136) 1 ([.lit (.slice none 0 0)]) 24 (.list []):=by and_intros<;>kernel_rfl
@[simp] theorem ajD:eH Tryz.prog 134=true:=by kernel_rfl
@[simp] theorem asC:T5 135 (.struct) 6 ([.d (.int .i64 0),.d (.int .i64 0),.d (.str []),.d (.str []),.lit (.slice none 0 0),.d (.int .i64 0)]) 80 (.agg ([.int .i64 0,.int .i64 0,.str [],.str [],.list [],.int .i64 0])):=by and_intros<;>kernel_rfl
@[simp] theorem alp:FF 135 0 0 3:=by and_intros<;>kernel_rfl
@[simp] theorem alq:FF 135 1 1 2:=by and_intros<;>kernel_rfl
@[simp] theorem alr:FF 135 2 2 9:=by and_intros<;>kernel_rfl
@[simp] theorem als:FF 135 3 3 9:=by and_intros<;>kernel_rfl
@[simp] theorem alu:FF 135 4 4 134:=by and_intros<;>kernel_rfl
@[simp] theorem alv:FF 135 5 5 3:=by and_intros<;>kernel_rfl
@[simp] theorem agb:bu Tryz.prog 135=some [(0,1),(1,1),(2,1),(3,1),(4,1),(5,1)]:=by kernel_rfl
@[simp] theorem asD:T5 136 (.struct) 6 ([.d (.int .i64 0),.d (.int .i64 0),.d (.str []),.d (.str []),.lit (.slice none 0 0),.d (.int .i64 0)]) 80 (.agg ([.int .i64 0,.int .i64 0,.str [],.str [],.list [],.int .i64 0])):=by and_intros<;>kernel_rfl
@[simp] theorem alw:FF 136 0 0 3:=by and_intros<;>kernel_rfl
@[simp] theorem alx:FF 136 1 1 2:=by and_intros<;>kernel_rfl
@[simp] theorem aly:FF 136 2 2 9:=by and_intros<;>kernel_rfl
@[simp] theorem alz:FF 136 3 3 9:=by and_intros<;>kernel_rfl
@[simp] theorem alA:FF 136 4 4 134:=by and_intros<;>kernel_rfl
@[simp] theorem alB:FF 136 5 5 3:=by and_intros<;>kernel_rfl
@[simp] theorem agc:bu Tryz.prog 136=some [(0,1),(1,1),(2,1),(3,1),(4,1),(5,1)]:=by kernel_rfl
@[simp] theorem asF:T5 137 (.slice 45) 1 ([.lit (.slice none 0 0)]) 24 (.list []):=by and_intros<;>kernel_rfl
@[simp] theorem ajE:eH Tryz.prog 137=true:=by kernel_rfl
@[simp] theorem asG:T5 138 (.slice 9) 1 ([.lit (.slice none 0 0)]) 24 (.list []):=by and_intros<;>kernel_rfl
@[simp] theorem ajF:eH Tryz.prog 138=true:=by kernel_rfl
@[simp] theorem asH:T5 139 (.slice 23) 1 ([.lit (.slice none 0 0)]) 24 (.list []):=by and_intros<;>kernel_rfl
@[simp] theorem ajG:eH Tryz.prog 139=true:=by kernel_rfl
@[simp] theorem asI:T5 140 (.struct) 19 ([.d (.int .i64 0),.d (.str []),.d (.int .i64 0),.d (.int .i64 0),.d (.str []),.d (.str []),.lit (.slice none 0 0),.d (.int .i64 0),.d (.int .i64 0),.d (.int .i64 0),.d (.str []),.d (.str []),.lit (.slice none 0 0),.d (.int .i64 0),.lit (.slice none 0 0),.lit (.slice none 0 0),.lit (.slice none 0 0),.lit (.slice none 0 0),.d (.int .i64 0)]) 288 (.agg ([.int .i64 0,.str [],.int .i64 0,.int .i64 0,.str [],.str [],.list [],.int .i64 0,.int .i64 0,.int .i64 0,.str [],.str [],.list [],.int .i64 0,.list [],.list [],.list [],.list [],.int .i64 0])):=by and_intros<;>kernel_rfl
@[simp] theorem alC:FF 140 0 0 3:=by and_intros<;>kernel_rfl
@[simp] theorem alD:FF 140 1 1 9:=by and_intros<;>kernel_rfl
@[simp] theorem alE:FF 140 2 2 136:=by and_intros<;>kernel_rfl
@[simp] theorem alF:FF 140 3 8 136:=by and_intros<;>kernel_rfl
@[simp] theorem alG:FF 140 4 14 134:=by and_intros<;>kernel_rfl
@[simp] theorem alH:FF 140 5 15 137:=by and_intros<;>kernel_rfl
@[simp] theorem alI:FF 140 6 16 138:=by and_intros<;>kernel_rfl
@[simp] theorem alJ:FF 140 7 17 139:=by and_intros<;>kernel_rfl
@[simp] theorem alK:FF 140 8 18 3:=by and_intros<;>kernel_rfl
@[simp] theorem agd:bu Tryz.prog 140=some [(0,1),(1,1),(2,6),(8,6),(14,1),(15,1),(16,1),(17,1),(18,1)]:=by kernel_rfl
@[simp] theorem asJ:T5 141 (.struct) 19 ([.d (.int .i64 0),.d (.str []),.d (.int .i64 0),.d (.int .i64 0),.d (.str []),.d (.str []),.lit (.slice none 0 0),.d (.int .i64 0),.d (.int .i64 0),.d (.int .i64 0),.d (.str []),.d (.str []),.lit (.slice none 0 0),.d (.int .i64 0),.lit (.slice none 0 0),.lit (.slice none 0 0),.lit (.slice none 0 0),.lit (.slice none 0 0),.d (.int .i64 0)]) 288 (.agg ([.int .i64 0,.str [],.int .i64 0,.int .i64 0,.str [],.str [],.list [],.int .i64 0,.int .i64 0,.int .i64 0,.str [],.str [],.list [],.int .i64 0,.list [],.list [],.list [],.list [],.int .i64 0])):=by and_intros<;>kernel_rfl
@[simp] theorem alL:FF 141 0 0 3:=by and_intros<;>kernel_rfl
@[simp] theorem alM:FF 141 1 1 9:=by and_intros<;>kernel_rfl
@[simp] theorem alN:FF 141 2 2 136:=by and_intros<;>kernel_rfl
@[simp] theorem alO:FF 141 3 8 136:=by and_intros<;>kernel_rfl
@[simp] theorem alP:FF 141 4 14 134:=by and_intros<;>kernel_rfl
@[simp] theorem alQ:FF 141 5 15 137:=by and_intros<;>kernel_rfl
@[simp] theorem alR:FF 141 6 16 138:=by and_intros<;>kernel_rfl
@[simp] theorem alS:FF 141 7 17 139:=by and_intros<;>kernel_rfl
@[simp] theorem alT:FF 141 8 18 3:=by and_intros<;>kernel_rfl
@[simp] theorem age:bu Tryz.prog 141=some [(0,1),(1,1),(2,6),(8,6),(14,1),(15,1),(16,1),(17,1),(18,1)]:=by kernel_rfl
@[simp] theorem asK:T5 145 (.slice 148) 1 ([.lit (.slice none 0 0)]) 24 (.list []):=by and_intros<;>kernel_rfl
@[simp] theorem ajH:eH Tryz.prog 145=true:=by kernel_rfl
@[simp] theorem asL:T5 147 (.struct) 4 ([.d (.int .i64 0),.d (.str []),.d (.str []),.lit (.slice none 0 0)]) 64 (.agg ([.int .i64 0,.str [],.str [],.list []])):=by and_intros<;>kernel_rfl
@[simp] theorem alU:FF 147 0 0 3:=by and_intros<;>kernel_rfl
@[simp] theorem alV:FF 147 1 1 9:=by and_intros<;>kernel_rfl
@[simp] theorem alW:FF 147 2 2 9:=by and_intros<;>kernel_rfl
@[simp] theorem alX:FF 147 3 3 138:=by and_intros<;>kernel_rfl
@[simp] theorem agf:bu Tryz.prog 147=some [(0,1),(1,1),(2,1),(3,1)]:=by kernel_rfl
@[simp] theorem asM:T5 148 (.struct) 4 ([.d (.int .i64 0),.d (.str []),.d (.str []),.lit (.slice none 0 0)]) 64 (.agg ([.int .i64 0,.str [],.str [],.list []])):=by and_intros<;>kernel_rfl
@[simp] theorem alY:FF 148 0 0 3:=by and_intros<;>kernel_rfl
@[simp] theorem alZ:FF 148 1 1 9:=by and_intros<;>kernel_rfl
@[simp] theorem al0:FF 148 2 2 9:=by and_intros<;>kernel_rfl
@[simp] theorem al1:FF 148 3 3 138:=by and_intros<;>kernel_rfl
@[simp] theorem agh:bu Tryz.prog 148=some [(0,1),(1,1),(2,1),(3,1)]:=by kernel_rfl
@[simp] theorem asN:T2 155 (.func) 1:=by and_intros<;>kernel_rfl
@[simp] theorem asO:T5 158 (.int .u64) 1 ([.d (.int .u64 0)]) 8 (.int .u64 0):=by and_intros<;>kernel_rfl
@[simp] theorem asP:T2 160 (.func) 1:=by and_intros<;>kernel_rfl
@[simp] theorem asQ:T5 174 (.struct) 3 ([.d (.str []),.d (.int .i64 0),.d (.bool false)]) 32 (.agg ([.str [],.int .i64 0,.bool false])):=by and_intros<;>kernel_rfl
@[simp] theorem al2:FF 174 0 0 9:=by and_intros<;>kernel_rfl
@[simp] theorem al3:FF 174 1 1 3:=by and_intros<;>kernel_rfl
@[simp] theorem al4:FF 174 2 2 4:=by and_intros<;>kernel_rfl
@[simp] theorem agi:bu Tryz.prog 174=some [(0,1),(1,1),(2,1)]∧cj Tryz.prog 174=some [.str,.int .i64,.bool]:=by and_intros<;>kernel_rfl
@[simp] theorem asR:T5 175 (.struct) 3 ([.d (.str []),.d (.int .i64 0),.d (.bool false)]) 32 (.agg ([.str [],.int .i64 0,.bool false])):=by and_intros<;>kernel_rfl
@[simp] theorem al5:FF 175 0 0 9:=by and_intros<;>kernel_rfl
@[simp] theorem al6:FF 175 1 1 3:=by and_intros<;>kernel_rfl
@[simp] theorem al7:FF 175 2 2 4:=by and_intros<;>kernel_rfl
@[simp] theorem agj:bu Tryz.prog 175=some [(0,1),(1,1),(2,1)]∧cj Tryz.prog 175=some [.str,.int .i64,.bool]:=by and_intros<;>kernel_rfl
@[simp] theorem asS:T5 177 (.struct) 5 ([.d (.int .i64 0),.d (.str []),.d (.str []),.d (.str []),.d (.int .i64 0)]) 64 (.agg ([.int .i64 0,.str [],.str [],.str [],.int .i64 0])):=by and_intros<;>kernel_rfl
@[simp] theorem al8:FF 177 0 0 3:=by and_intros<;>kernel_rfl
@[simp] theorem al9:FF 177 1 1 9:=by and_intros<;>kernel_rfl
@[simp] theorem ama:FF 177 2 2 9:=by and_intros<;>kernel_rfl
@[simp] theorem amb:FF 177 3 3 9:=by and_intros<;>kernel_rfl
@[simp] theorem amc:FF 177 4 4 3:=by and_intros<;>kernel_rfl
@[simp] theorem agk:bu Tryz.prog 177=some [(0,1),(1,1),(2,1),(3,1),(4,1)]∧cj Tryz.prog 177=some [.int .i64,.str,.str,.str,.int .i64]:=by and_intros<;>kernel_rfl
@[simp] theorem asT:T5 178 (.struct) 5 ([.d (.int .i64 0),.d (.str []),.d (.str []),.d (.str []),.d (.int .i64 0)]) 64 (.agg ([.int .i64 0,.str [],.str [],.str [],.int .i64 0])):=by and_intros<;>kernel_rfl
@[simp] theorem amd:FF 178 0 0 3:=by and_intros<;>kernel_rfl
@[simp] theorem ame:FF 178 1 1 9:=by and_intros<;>kernel_rfl
@[simp] theorem amf:FF 178 2 2 9:=by and_intros<;>kernel_rfl
@[simp] theorem amg:FF 178 3 3 9:=by and_intros<;>kernel_rfl
@[simp] theorem amh:FF 178 4 4 3:=by and_intros<;>kernel_rfl
@[simp] theorem agl:bu Tryz.prog 178=some [(0,1),(1,1),(2,1),(3,1),(4,1)]∧cj Tryz.prog 178=some [.int .i64,.str,.str,.str,.int .i64]:=by and_intros<;>kernel_rfl
@[simp] theorem asU:T5 182 (.slice 63) 1 ([.lit (.slice none 0 0)]) 24 (.list []):=by and_intros<;>kernel_rfl
@[simp] theorem ajI:eH Tryz.prog 182=true:=by kernel_rfl
@[simp] theorem asV:T5 185 (.struct) 6 ([.d (.int .i64 0),.d (.int .i64 0),.d (.str []),.d (.int .i64 0),.d (.int .i64 0),.d (.int .i64 0)]) 56 (.agg ([.int .i64 0,.int .i64 0,.str [],.int .i64 0,.int .i64 0,.int .i64 0])):=by and_intros<;>kernel_rfl
@[simp] theorem ami:FF 185 0 0 34:=by and_intros<;>kernel_rfl
@[simp] theorem amj:FF 185 1 1 63:=by and_intros<;>kernel_rfl
@[simp] theorem agm:bu Tryz.prog 185=some [(0,1),(1,5)]∧cj Tryz.prog 185=some [.int .i64,.int .i64,.str,.int .i64,.int .i64,.int .i64]:=by and_intros<;>kernel_rfl
@[simp] theorem asW:T5 186 (.struct) 6 ([.d (.int .i64 0),.d (.int .i64 0),.d (.str []),.d (.int .i64 0),.d (.int .i64 0),.d (.int .i64 0)]) 56 (.agg ([.int .i64 0,.int .i64 0,.str [],.int .i64 0,.int .i64 0,.int .i64 0])):=by and_intros<;>kernel_rfl
@[simp] theorem amk:FF 186 0 0 34:=by and_intros<;>kernel_rfl
@[simp] theorem aml:FF 186 1 1 63:=by and_intros<;>kernel_rfl
@[simp] theorem agn:bu Tryz.prog 186=some [(0,1),(1,5)]∧cj Tryz.prog 186=some [.int .i64,.int .i64,.str,.int .i64,.int .i64,.int .i64]:=by and_intros<;>kernel_rfl
@[simp] theorem asX:T2 188 (.ptr 190) 1:=by and_intros<;>kernel_rfl
@[simp] theorem asY:T5 189 (.struct) 4 ([.lit (.slice none 0 0),.d (.int .i64 0),.d (.int .i64 0),.lit (.slice none 0 0)]) 64 (.agg ([.list [],.int .i64 0,.int .i64 0,.list []])):=by and_intros<;>kernel_rfl
@[simp] theorem amm:FF 189 0 0 182:=by and_intros<;>kernel_rfl
@[simp] theorem amn:FF 189 1 1 3:=by and_intros<;>kernel_rfl
@[simp] theorem amo:FF 189 2 2 3:=by and_intros<;>kernel_rfl
@[simp] theorem amp:FF 189 3 3 22:=by and_intros<;>kernel_rfl
@[simp] theorem ago:bu Tryz.prog 189=some [(0,1),(1,1),(2,1),(3,1)]:=by kernel_rfl
@[simp] theorem asZ:T5 190 (.struct) 4 ([.lit (.slice none 0 0),.d (.int .i64 0),.d (.int .i64 0),.lit (.slice none 0 0)]) 64 (.agg ([.list [],.int .i64 0,.int .i64 0,.list []])):=by and_intros<;>kernel_rfl
@[simp] theorem amq:FF 190 0 0 182:=by and_intros<;>kernel_rfl
@[simp] theorem amr:FF 190 1 1 3:=by and_intros<;>kernel_rfl
@[simp] theorem ams:FF 190 2 2 3:=by and_intros<;>kernel_rfl
@[simp] theorem amt:FF 190 3 3 22:=by and_intros<;>kernel_rfl
@[simp] theorem agp:bu Tryz.prog 190=some [(0,1),(1,1),(2,1),(3,1)]:=by kernel_rfl
@[simp] theorem as0:T5 204 (.slice 134) 1 ([.lit (.slice none 0 0)]) 24 (.list []):=by and_intros<;>kernel_rfl
@[simp] theorem ajJ:eH Tryz.prog 204=true:=by kernel_rfl
@[simp] theorem as1:T5 229 (.slice 178) 1 ([.lit (.slice none 0 0)]) 24 (.list []):=by and_intros<;>kernel_rfl
@[simp] theorem ajK:eH Tryz.prog 229=true:=by kernel_rfl
@[simp] theorem as2:T2 232 (.func) 1:=by and_intros<;>kernel_rfl
@[simp] theorem as3:T2 236 (.ptr 238) 1:=by and_intros<;>kernel_rfl
@[simp] theorem as4:T5 237 (.struct) 4 ([.d (.str []),.d (.int .i64 0),.d (.int .i64 0),.d (.int .i64 0)]) 40 (.agg ([.str [],.int .i64 0,.int .i64 0,.int .i64 0])):=by and_intros<;>kernel_rfl
@[simp] theorem amu:FF 237 0 0 9:=by and_intros<;>kernel_rfl
@[simp] theorem amv:FF 237 1 1 3:=by and_intros<;>kernel_rfl
@[simp] theorem amw:FF 237 2 2 3:=by and_intros<;>kernel_rfl
@[simp] theorem amx:FF 237 3 3 3:=by and_intros<;>kernel_rfl
@[simp] theorem agq:bu Tryz.prog 237=some [(0,1),(1,1),(2,1),(3,1)]∧cj Tryz.prog 237=some [.str,.int .i64,.int .i64,.int .i64]:=by and_intros<;>kernel_rfl
@[simp] theorem as5:T5 238 (.struct) 4 ([.d (.str []),.d (.int .i64 0),.d (.int .i64 0),.d (.int .i64 0)]) 40 (.agg ([.str [],.int .i64 0,.int .i64 0,.int .i64 0])):=by and_intros<;>kernel_rfl
@[simp] theorem amy:FF 238 0 0 9:=by and_intros<;>kernel_rfl
@[simp] theorem amz:FF 238 1 1 3:=by and_intros<;>kernel_rfl
@[simp] theorem amA:FF 238 2 2 3:=by and_intros<;>kernel_rfl
@[simp] theorem amB:FF 238 3 3 3:=by and_intros<;>kernel_rfl
@[simp] theorem agr:bu Tryz.prog 238=some [(0,1),(1,1),(2,1),(3,1)]∧cj Tryz.prog 238=some [.str,.int .i64,.int .i64,.int .i64]:=by and_intros<;>kernel_rfl
@[simp] theorem as6:T2 255 (.func) 1:=by and_intros<;>kernel_rfl
@[simp] theorem as7:T5 274 (.arr 256 5) 256 (List.replicate 256 (.d (.int .u8 0))) 256 (.agg (List.replicate 256 (.int .u8 0))):=by and_intros<;>kernel_rfl
@[simp] theorem ags:bu Tryz.prog 274=none:=by kernel_rfl
@[simp] theorem as8:T2 276 (.func) 1:=by and_intros<;>kernel_rfl
@[simp] theorem as9:T2 285 (.func) 1:=by and_intros<;>kernel_rfl
@[simp] theorem ata:T2 302 (.func) 1:=by and_intros<;>kernel_rfl
@[simp] theorem atb:T5 305 (.slice 307) 1 ([.lit (.slice none 0 0)]) 24 (.list []):=by and_intros<;>kernel_rfl
@[simp] theorem ajL:eH Tryz.prog 305=true:=by kernel_rfl
@[simp] theorem atc:T5 306 (.struct) 2 ([.d (.int .i64 0),.d (.int .i64 0)]) 16 (.agg ([.int .i64 0,.int .i64 0])):=by and_intros<;>kernel_rfl
@[simp] theorem amC:FF 306 0 0 3:=by and_intros<;>kernel_rfl
@[simp] theorem amD:FF 306 1 1 3:=by and_intros<;>kernel_rfl
@[simp] theorem agt:bu Tryz.prog 306=some [(0,1),(1,1)]∧cj Tryz.prog 306=some [.int .i64,.int .i64]:=by and_intros<;>kernel_rfl
@[simp] theorem atd:T5 307 (.struct) 2 ([.d (.int .i64 0),.d (.int .i64 0)]) 16 (.agg ([.int .i64 0,.int .i64 0])):=by and_intros<;>kernel_rfl
@[simp] theorem amE:FF 307 0 0 3:=by and_intros<;>kernel_rfl
@[simp] theorem amF:FF 307 1 1 3:=by and_intros<;>kernel_rfl
@[simp] theorem agu:bu Tryz.prog 307=some [(0,1),(1,1)]∧cj Tryz.prog 307=some [.int .i64,.int .i64]:=by and_intros<;>kernel_rfl
@[simp] theorem ate:T5 308 (.int .u32) 1 ([.d (.int .u32 0)]) 4 (.int .u32 0):=by and_intros<;>kernel_rfl
@[simp] theorem atf:T2 310 (.ptr 340) 1:=by and_intros<;>kernel_rfl
@[simp] theorem atg:T5 312 (.struct) 2 ([.d (.str []),.d (.int .i64 0)]) 24 (.agg ([.str [],.int .i64 0])):=by and_intros<;>kernel_rfl
@[simp] theorem amG:FF 312 0 0 9:=by and_intros<;>kernel_rfl
@[simp] theorem amH:FF 312 1 1 2:=by and_intros<;>kernel_rfl
@[simp] theorem agv:bu Tryz.prog 312=some [(0,1),(1,1)]∧cj Tryz.prog 312=some [.str,.int .i64]:=by and_intros<;>kernel_rfl
@[simp] theorem ath:T5 313 (.slice 312) 1 ([.lit (.slice none 0 0)]) 24 (.list []):=by and_intros<;>kernel_rfl
@[simp] theorem ajM:eH Tryz.prog 313=true:=by kernel_rfl
@[simp] theorem ati:T5 315 (.struct) 9 ([.d (.int .i64 0),.d (.str []),.d (.int .i64 0),.d (.int .i64 0),.d (.int .i64 0),.d (.int .i64 0),.d (.bool false),.d (.int .i64 0),.d (.int .i64 0)]) 80 (.agg ([.int .i64 0,.str [],.int .i64 0,.int .i64 0,.int .i64 0,.int .i64 0,.bool false,.int .i64 0,.int .i64 0])):=by and_intros<;>kernel_rfl
@[simp] theorem amI:FF 315 0 0 63:=by and_intros<;>kernel_rfl
@[simp] theorem amJ:FF 315 1 5 3:=by and_intros<;>kernel_rfl
@[simp] theorem amK:FF 315 2 6 4:=by and_intros<;>kernel_rfl
@[simp] theorem amL:FF 315 3 7 2:=by and_intros<;>kernel_rfl
@[simp] theorem amM:FF 315 4 8 2:=by and_intros<;>kernel_rfl
@[simp] theorem agw:bu Tryz.prog 315=some [(0,5),(5,1),(6,1),(7,1),(8,1)]∧cj Tryz.prog 315=some [.int .i64,.str,.int .i64,.int .i64,.int .i64,.int .i64,.bool,.int .i64,.int .i64]:=by and_intros<;>kernel_rfl
@[simp] theorem atj:T5 316 (.struct) 9 ([.d (.int .i64 0),.d (.str []),.d (.int .i64 0),.d (.int .i64 0),.d (.int .i64 0),.d (.int .i64 0),.d (.bool false),.d (.int .i64 0),.d (.int .i64 0)]) 80 (.agg ([.int .i64 0,.str [],.int .i64 0,.int .i64 0,.int .i64 0,.int .i64 0,.bool false,.int .i64 0,.int .i64 0])):=by and_intros<;>kernel_rfl
@[simp] theorem amN:FF 316 0 0 63:=by and_intros<;>kernel_rfl
@[simp] theorem amO:FF 316 1 5 3:=by and_intros<;>kernel_rfl
@[simp] theorem amP:FF 316 2 6 4:=by and_intros<;>kernel_rfl
@[simp] theorem amQ:FF 316 3 7 2:=by and_intros<;>kernel_rfl
@[simp] theorem amR:FF 316 4 8 2:=by and_intros<;>kernel_rfl
@[simp] theorem agx:bu Tryz.prog 316=some [(0,5),(5,1),(6,1),(7,1),(8,1)]∧cj Tryz.prog 316=some [.int .i64,.str,.int .i64,.int .i64,.int .i64,.int .i64,.bool,.int .i64,.int .i64]:=by and_intros<;>kernel_rfl
@[simp] theorem atk:T5 337 (.slice 342) 1 ([.lit (.slice none 0 0)]) 24 (.list []):=by and_intros<;>kernel_rfl
@[simp] theorem ajN:eH Tryz.prog 337=true:=by kernel_rfl
@[simp] theorem atl:T5 338 (.slice 345) 1 ([.lit (.slice none 0 0)]) 24 (.list []):=by and_intros<;>kernel_rfl
@[simp] theorem ajO:eH Tryz.prog 338=true:=by kernel_rfl
@[simp] theorem atm:T5 339 (.struct) 3 ([.lit (.slice none 0 0),.lit (.slice none 0 0),.d (.int .i64 0)]) 56 (.agg ([.list [],.list [],.int .i64 0])):=by and_intros<;>kernel_rfl
@[simp] theorem amS:FF 339 0 0 337:=by and_intros<;>kernel_rfl
@[simp] theorem amT:FF 339 1 1 338:=by and_intros<;>kernel_rfl
@[simp] theorem amU:FF 339 2 2 3:=by and_intros<;>kernel_rfl
@[simp] theorem agy:bu Tryz.prog 339=some [(0,1),(1,1),(2,1)]:=by kernel_rfl
@[simp] theorem atn:T5 340 (.struct) 3 ([.lit (.slice none 0 0),.lit (.slice none 0 0),.d (.int .i64 0)]) 56 (.agg ([.list [],.list [],.int .i64 0])):=by and_intros<;>kernel_rfl
@[simp] theorem amV:FF 340 0 0 337:=by and_intros<;>kernel_rfl
@[simp] theorem amW:FF 340 1 1 338:=by and_intros<;>kernel_rfl
@[simp] theorem amX:FF 340 2 2 3:=by and_intros<;>kernel_rfl
@[simp] theorem agz:bu Tryz.prog 340=some [(0,1),(1,1),(2,1)]:=by kernel_rfl
@[simp] theorem ato:T5 341 (.struct) 3 ([.d (.int .u16 0),.d (.int .u16 0),.d (.int .u16 0)]) 6 (.agg ([.int .u16 0,.int .u16 0,.int .u16 0])):=by and_intros<;>kernel_rfl
@[simp] theorem amY:FF 341 0 0 103:=by and_intros<;>kernel_rfl
@[simp] theorem amZ:FF 341 1 1 103:=by and_intros<;>kernel_rfl
@[simp] theorem am0:FF 341 2 2 103:=by and_intros<;>kernel_rfl
@[simp] theorem agA:bu Tryz.prog 341=some [(0,1),(1,1),(2,1)]∧cj Tryz.prog 341=some [.int .u16,.int .u16,.int .u16]:=by and_intros<;>kernel_rfl
@[simp] theorem atp:T5 342 (.struct) 3 ([.d (.int .u16 0),.d (.int .u16 0),.d (.int .u16 0)]) 6 (.agg ([.int .u16 0,.int .u16 0,.int .u16 0])):=by and_intros<;>kernel_rfl
@[simp] theorem am1:FF 342 0 0 103:=by and_intros<;>kernel_rfl
@[simp] theorem am2:FF 342 1 1 103:=by and_intros<;>kernel_rfl
@[simp] theorem am3:FF 342 2 2 103:=by and_intros<;>kernel_rfl
@[simp] theorem agB:bu Tryz.prog 342=some [(0,1),(1,1),(2,1)]∧cj Tryz.prog 342=some [.int .u16,.int .u16,.int .u16]:=by and_intros<;>kernel_rfl
@[simp] theorem atq:T5 344 (.struct) 3 ([.d (.int .u32 0),.d (.int .u32 0),.d (.int .u32 0)]) 12 (.agg ([.int .u32 0,.int .u32 0,.int .u32 0])):=by and_intros<;>kernel_rfl
@[simp] theorem am4:FF 344 0 0 308:=by and_intros<;>kernel_rfl
@[simp] theorem am5:FF 344 1 1 308:=by and_intros<;>kernel_rfl
@[simp] theorem am6:FF 344 2 2 308:=by and_intros<;>kernel_rfl
@[simp] theorem agC:bu Tryz.prog 344=some [(0,1),(1,1),(2,1)]∧cj Tryz.prog 344=some [.int .u32,.int .u32,.int .u32]:=by and_intros<;>kernel_rfl
@[simp] theorem atr:T5 345 (.struct) 3 ([.d (.int .u32 0),.d (.int .u32 0),.d (.int .u32 0)]) 12 (.agg ([.int .u32 0,.int .u32 0,.int .u32 0])):=by and_intros<;>kernel_rfl
@[simp] theorem am7:FF 345 0 0 308:=by and_intros<;>kernel_rfl
@[simp] theorem am8:FF 345 1 1 308:=by and_intros<;>kernel_rfl
@[simp] theorem am9:FF 345 2 2 308:=by and_intros<;>kernel_rfl
@[simp] theorem agD:bu Tryz.prog 345=some [(0,1),(1,1),(2,1)]∧cj Tryz.prog 345=some [.int .u32,.int .u32,.int .u32]:=by and_intros<;>kernel_rfl
@[simp] theorem ats:T2 356 (.ptr 342) 1:=by and_intros<;>kernel_rfl
@[simp] theorem att:T2 357 (.ptr 345) 1:=by and_intros<;>kernel_rfl
@[simp] theorem atu:T5 364 (.slice 138) 1 ([.lit (.slice none 0 0)]) 24 (.list []):=by and_intros<;>kernel_rfl
@[simp] theorem ajP:eH Tryz.prog 364=true:=by kernel_rfl
@[simp] theorem atv:T3 367 (.struct) 4 ([.lit (.pointer none),.lit (.pointer none),.lit (.pointer none),.d (.str [])]):=by and_intros<;>kernel_rfl
@[simp] theorem ana:FF 367 0 0 17:=by and_intros<;>kernel_rfl
@[simp] theorem anb:FF 367 1 1 17:=by and_intros<;>kernel_rfl
@[simp] theorem anc:FF 367 2 2 17:=by and_intros<;>kernel_rfl
@[simp] theorem ane:FF 367 3 3 9:=by and_intros<;>kernel_rfl
@[simp] theorem agE:bu Tryz.prog 367=some [(0,1),(1,1),(2,1),(3,1)]:=by kernel_rfl
@[simp] theorem atw:T3 368 (.struct) 4 ([.lit (.pointer none),.lit (.pointer none),.lit (.pointer none),.d (.str [])]):=by and_intros<;>kernel_rfl
@[simp] theorem anf:FF 368 0 0 17:=by and_intros<;>kernel_rfl
@[simp] theorem ang:FF 368 1 1 17:=by and_intros<;>kernel_rfl
@[simp] theorem anh:FF 368 2 2 17:=by and_intros<;>kernel_rfl
@[simp] theorem ani:FF 368 3 3 9:=by and_intros<;>kernel_rfl
@[simp] theorem agF:bu Tryz.prog 368=some [(0,1),(1,1),(2,1),(3,1)]:=by kernel_rfl
@[simp] theorem atx:T5 369 (.arr 0 16) 0 ([]) 0 (.agg ([])):=by and_intros<;>kernel_rfl
@[simp] theorem agG:bu Tryz.prog 369=none:=by kernel_rfl
@[simp] theorem aty:T5 370 (.struct) 0 ([]) 0 (.agg ([])):=by and_intros<;>kernel_rfl
@[simp] theorem agH:bu Tryz.prog 370=some [(0,0)]:=by kernel_rfl
@[simp] theorem atz:T5 371 (.struct) 0 ([]) 0 (.agg ([])):=by and_intros<;>kernel_rfl
@[simp] theorem agI:bu Tryz.prog 371=some [(0,0)]:=by kernel_rfl
@[simp] theorem atA:T5 372 (.int .u8) 1 ([.d (.int .u8 0)]) 1 (.int .u8 0):=by and_intros<;>kernel_rfl
@[simp] theorem atB:T5 373 (.int .u8) 1 ([.d (.int .u8 0)]) 1 (.int .u8 0):=by and_intros<;>kernel_rfl
@[simp] theorem atC:T2 374 (.func) 1:=by and_intros<;>kernel_rfl
@[simp] theorem atD:T2 375 (.ptr 5) 1:=by and_intros<;>kernel_rfl
@[simp] theorem atE:T5 376 (.int .i32) 1 ([.d (.int .i32 0)]) 4 (.int .i32 0):=by and_intros<;>kernel_rfl
@[simp] theorem atG:T5 377 (.int .i32) 1 ([.d (.int .i32 0)]) 4 (.int .i32 0):=by and_intros<;>kernel_rfl
@[simp] theorem atH:T3 378 (.struct) 11 ([.d (.int .u64 0),.d (.int .u64 0),.d (.int .u32 0),.d (.int .u8 0),.d (.int .u8 0),.d (.int .u8 0),.d (.int .u8 0),.lit .nilFunc,.lit (.pointer none),.d (.int .i32 0),.d (.int .i32 0)]):=by and_intros<;>kernel_rfl
@[simp] theorem anj:FF 378 0 0 12:=by and_intros<;>kernel_rfl
@[simp] theorem ank:FF 378 1 1 12:=by and_intros<;>kernel_rfl
@[simp] theorem anl:FF 378 2 2 308:=by and_intros<;>kernel_rfl
@[simp] theorem anm:FF 378 3 3 372:=by and_intros<;>kernel_rfl
@[simp] theorem ann:FF 378 4 4 5:=by and_intros<;>kernel_rfl
@[simp] theorem ano:FF 378 5 5 5:=by and_intros<;>kernel_rfl
@[simp] theorem anp:FF 378 6 6 373:=by and_intros<;>kernel_rfl
@[simp] theorem anq:FF 378 7 7 374:=by and_intros<;>kernel_rfl
@[simp] theorem anr:FF 378 8 8 375:=by and_intros<;>kernel_rfl
@[simp] theorem ans:FF 378 9 9 376:=by and_intros<;>kernel_rfl
@[simp] theorem ajQ:FF 378 10 10 377:=by and_intros<;>kernel_rfl
@[simp] theorem agJ:bu Tryz.prog 378=some [(0,1),(1,1),(2,1),(3,1),(4,1),(5,1),(6,1),(7,1),(8,1),(9,1),(10,1)]:=by kernel_rfl
@[simp] theorem atJ:T3 379 (.struct) 11 ([.d (.int .u64 0),.d (.int .u64 0),.d (.int .u32 0),.d (.int .u8 0),.d (.int .u8 0),.d (.int .u8 0),.d (.int .u8 0),.lit .nilFunc,.lit (.pointer none),.d (.int .i32 0),.d (.int .i32 0)]):=by and_intros<;>kernel_rfl
@[simp] theorem ant:FF 379 0 0 12:=by and_intros<;>kernel_rfl
@[simp] theorem anu:FF 379 1 1 12:=by and_intros<;>kernel_rfl
@[simp] theorem anv:FF 379 2 2 308:=by and_intros<;>kernel_rfl
@[simp] theorem anw:FF 379 3 3 372:=by and_intros<;>kernel_rfl
@[simp] theorem anx:FF 379 4 4 5:=by and_intros<;>kernel_rfl
@[simp] theorem anz:FF 379 5 5 5:=by and_intros<;>kernel_rfl
@[simp] theorem anA:FF 379 6 6 373:=by and_intros<;>kernel_rfl
@[simp] theorem anB:FF 379 7 7 374:=by and_intros<;>kernel_rfl
@[simp] theorem anC:FF 379 8 8 375:=by and_intros<;>kernel_rfl
@[simp] theorem anD:FF 379 9 9 376:=by and_intros<;>kernel_rfl
@[simp] theorem ajR:FF 379 10 10 377:=by and_intros<;>kernel_rfl
@[simp] theorem agK:bu Tryz.prog 379=some [(0,1),(1,1),(2,1),(3,1),(4,1),(5,1),(6,1),(7,1),(8,1),(9,1),(10,1)]:=by kernel_rfl
end Go.Am
end
section
namespace Go.Am
open Go
def idxO:List D→Option D
 |[.str s,.str t]=>if s.length<4294967281 then some (.int .i64 (Go.Lib.index s t))else none
 |_=>none
def ibO:List D→Option D
 |[.str s,.int .u8 c]=>some (.int .i64 (Go.Lib.indexByte s c.toNat.toUInt8))
 |_=>none
def hpO:List D→Option D
 |[.str s,.str p]=>some (.bool (Go.Lib.hasPrefix s p))
 |_=>none
attribute [simp] idxO.eq_1 ibO.eq_1 hpO.eq_1
section
variable {X:Ctx} {cl:bq} {md:Bool} {all:List Oper} {S:St}
@[simp] theorem afx{d:Option Tmp}{op:Op}{ty:TypeId}{pos:String}{af:Array Edge}:dU X cl md all S ⟨d,op,ty,pos,af,none⟩=dstep X cl S ⟨d,op,ty,pos,af,none⟩ (stepv X.P S ⟨d,op,ty,pos,af,none⟩):=rfl
@[simp] theorem anE{js:List Nat}{i:Nat}{acc:List aS}:qo X md all js i [] S acc=some (revA acc []):=by rw[yU,List.append_nil];rfl
theorem pOps_cons{js:List Nat}{i:Nat}{o:Oper}{r:List Oper}{acc:List aS}:qo X md all js i (o::r) S acc=if js.contains i=true then (match dU X (fun _ _ _=>none) md all S o with
 |some (S1,p)=>qo X md all js (i+1) r S1 (p::acc)
 |none=>none)else qo X md all js (i+1) r (S.put o.dst false .aZ) (⟨[],[],false,.aZ⟩::acc):=by
 simp only[qo];cases js.contains i<;>rfl
end
attribute [simp] pOps_cons dstep.eq_1 dstep.eq_2 dstep.eq_3 panE.eq_1 pEnd.eq_1 pEnd.eq_2 verSum.eq_1 verSum.eq_2 verSums.eq_1 verSums.eq_2 killM.eq_1 killM.eq_2 St.kill.eq_1 farE.eq_1 farE.eq_2 farJ.eq_1 farJ.eq_2
attribute [simp] el_frz el_back el_callK el_dcallK
section
variable {ε σ α:Type} {X:Ctx} {md:Bool} {nd:Nat×List (List Nat)} {S:St} {d:Option Nat} {all q:List Oper} {acc:List aS} {k:Kt} {r:PR ε σ α} {f:α→σ→Option fH} {g:ε→σ→Option fH}
@[simp] theorem ajS:dcallG X md nd S d all q acc k (r.el f g)=r.el (fun a s=>dcallG X md nd S d all q acc k (f a s)) (fun e s=>dcallG X md nd S d all q acc k (g e s)):=by cases r<;>rfl
@[simp] theorem aq0:memC S (r.el f g)=r.el (fun a s=>memC S (f a s)) (fun e s=>memC S (g e s)):=by cases r<;>rfl
@[simp] theorem aq1{p:ay}{n0:Nat}{rs:List ResultVar}{f:α→σ→Option St}{g:ε→σ→Option St}:finM X p n0 rs (r.el f g)=r.el (fun a s=>finM X p n0 rs (f a s)) (fun e s=>finM X p n0 rs (g e s)):=by cases r<;>rfl
end
attribute [simp] denKD_seq denKD_cond denKD_ret denKD_skip denKD_loop denKD_block denKD_draw denKD_reg runKD_nil runKD_cons
attribute [simp] seqKD.eq_1 leaveKD.eq_1 nextKD.eq_1 oneKD.eq_1 oneKD.eq_2 finKD.eq_1 finKD.eq_2 finM.eq_1 finM.eq_2 memC.eq_1 recA.eq_1 recA.eq_2 recA.eq_3 finD1.eq_1 denRK_seq finRK.eq_1 finRK.eq_2
section
variable {X:Ctx} {f:FuncId} {S:St} {ds:List DF} {kd:yi} {b:Code}
@[simp] theorem aq2:seqKD X f b kd .ret S ds=kd .ret S ds:=rfl
@[simp] theorem aq3{t:TypeId}{x:D}:seqKD X f b kd (.panic t x) S ds=kd (.panic t x) S ds:=rfl
@[simp] theorem aq4{i:Nat}:seqKD X f b kd (.exit i) S ds=kd (.exit i) S ds:=rfl
@[simp] theorem ajT{id:Nat}{t:TypeId}{x:D}:leaveKD X f id kd (.panic t x) S ds=kd (.panic t x) S ds:=rfl
@[simp] theorem anF{md:Bool}{all r:List Oper}{t:TypeId}{x:D}:nextKD X md all r ds kd (.panic t x) S=kd (.panic t x) S ds:=rfl
end
@[simp] theorem aap:contKeys none=[]:=rfl
@[simp] theorem aaq(k v:Nat):contKeys (some ⟨k,v,.dead⟩)=[]:=rfl
@[simp] theorem abR(k v:Nat)(cs:List AV):contKeys (some ⟨k,v,.box cs⟩)=avsKeys cs:=rfl
@[simp] theorem abS(k v sz:Nat)(rows:List D):contKeys (some ⟨k,v,.vec sz rows⟩)=[]:=rfl
@[simp] theorem abT(k v:Nat)(rows:List (List D)):contKeys (some ⟨k,v,.vv rows none⟩)=[]:=rfl
@[simp] theorem afy(k v:Nat)(rows:List (List D))(x:AV):contKeys (some ⟨k,v,.vv rows (some x)⟩)=avKeys x:=rfl
@[simp] theorem aq5(m ρ bor nv rows y):selC m ρ bor nv (.vv rows y)=.vv rows (y.map (vw m ρ bor nv)):=rfl
@[simp] theorem ajU(rows y):plainC (.vv rows y)=(rows.all plainDs&&(match y with|none=>true|some x=>plainAV x)):=rfl
@[simp] theorem atK(ρ bs rows y):upC ρ bs (.vv rows y)=.vv rows (y.map (up ρ bs)):=rfl
@[simp] theorem aq6(τ rows y):mapC τ (.vv rows y)=.vv rows (y.map τ):=rfl
@[simp] theorem anG{n0:Nat}{b:Bool}{c:Prop}[Decidable c]{x y:Option (Out×List (Nat×aE))}:frzR n0 b (if c then x else y)=if c then frzR n0 b x else frzR n0 b y:=by split<;>rfl
@[simp] theorem aar(P t k0 len ps):gz P t k0 len ps none=none:=by
 unfold gz;split<;>simp_all
@[simp] theorem agL(P t k0 len n x o):gz P t k0 len [(n,.d x)] o=none:=by
 unfold gz;split<;>simp_all
@[simp] theorem abU(P t k0 len n x o):gz P t k0 len [(n,.agg x)] o=none:=by
 unfold gz;split<;>simp_all
@[simp] theorem abV(P t k0 len o):gz P t k0 len [] o=none:=by
 unfold gz;split<;>simp_all
@[simp] theorem abW(P t k0 len p q r o):gz P t k0 len (p::q::r) o=none:=by
 unfold gz;split<;>simp_all
@[simp] theorem abX(P t k0 len k v c):gz P t k0 len [(0,.lit (.slice none 0 0))] (some ⟨k,v,c⟩)=(match tk P t with
 | .slice e=>match fe P e,lD P e with
  |some sz,some _=>some (.cW (sz=1∧len=1) (.vec k0 (v+1) 0 1) ⟨k0,v+1,.box [.lit (.slice none 0 0)]⟩)
  |_,_=>none
 |_=>none):=rfl
attribute [simp] buildSlice0.eq_1
attribute [simp] storeV.eq_1 appV.eq_1
attribute [simp] Gh.go St.opn.eq_1 St.cls.eq_1 St.shut.eq_1 St.adoptV.eq_1
end Go.Am
end
section
namespace Go.Am
open Go
open Go.Proofs
set_option maxRecDepth 10000
@[simp] def WK:Nat→List Nat
 |0=>[1]
 |1=>[1,9]
 |2=>[2]
 |3=>[1,12]
 |4=>[2]
 |5=>[3,4]
 |6=>[3,19]
 |7=>[2]
 |8=>[3,5]
 |9=>[3,5,49]
 |10=>[2]
 |11=>[3,5,6]
 |12=>[3,5,6,52]
 |13=>[3,5,6]
 |14=>[3,5,6,7]
 |15=>[3,5,6,7,61]
 |16=>[3,5,6,7,61,62]
 |17=>[3,5,6,7,61,62]
 |18=>[3,5,6,73]
 |19=>[2]
 |20=>[3,5,6,7,61,74]
 |21=>[3,5,6,79]
 |22=>[2]
 |23=>[3,5,6,7,61,80]
 |24=>[3,5,6,7,61,80]
 |25=>[3,5,6,7,61,80]
 |26=>[3,5,6,7,80]
 |27=>[3,5,6,94]
 |28=>[2]
 |29=>[2]
 |_=>[]
@[simp] def md8:Nat→Bool
 |9=>true
 |_=>false
@[simp] def fp8:ay:=⟨[],false,[150,250,450],[],false⟩
@[simp] def WL:Nat→List Nat
 |0=>[1]
 |1=>[1,8]
 |2=>[2]
 |3=>[1,11]
 |4=>[2]
 |5=>[1,3,4]
 |6=>[3,4,5,6]
 |7=>[2]
 |_=>[]
@[simp] def md9:Nat→Bool
 |7=>true
 |_=>false
@[simp] def fp9:ay:=⟨[],false,[150,250,350],[],false⟩
@[simp] def RL:Nat→List Nat
 |0=>[1]
 |1=>[1,8]
 |2=>[2]
 |3=>[1,11]
 |4=>[2]
 |5=>[1,3,4]
 |6=>[1,3,18]
 |7=>[2]
 |8=>[1,3,5]
 |9=>[1,3,5,6]
 |10=>[1,3,5,6,23]
 |11=>[1,3,5,6]
 |12=>[1,3,5,6,32]
 |13=>[1,3,5,6]
 |14=>[2]
 |_=>[]
@[simp] def abZ:ay:=⟨[],false,[150,250],[],false⟩
@[simp] def RN:Nat→List Nat
 |0=>[1]
 |1=>[1,3]
 |2=>[2]
 |_=>[]
@[simp] def UH:ay:=⟨[],false,[150],[],false⟩
@[simp] def RO:Nat→List Nat
 |0=>[1]
 |1=>[1,14]
 |2=>[2]
 |3=>[1,3]
 |4=>[1,3,19]
 |5=>[1,3]
 |6=>[1,3,4]
 |7=>[1,3,4,40]
 |8=>[2]
 |9=>[1,3,4,54]
 |10=>[2]
 |11=>[1,3,4,93]
 |12=>[2]
 |13=>[1,3,125]
 |14=>[2]
 |15=>[2]
 |_=>[]
@[simp] def ab0:Nat→Bool
 |9=>true
 |11=>true
 |13=>true
 |_=>false
@[simp] def UI:ay:=⟨[],false,[150,300],[],false⟩
@[simp] def RQ:Nat→List Nat
 |0=>[1,2]
 |1=>[1,2,3]
 |2=>[1,2,3,4]
 |3=>[1,2,3,4,11]
 |4=>[1,2,3,4]
 |5=>[1,2,3,4,6]
 |6=>[1,2,3,4,28]
 |7=>[2]
 |8=>[1,2,3,4]
 |9=>[1,2,3,4,45]
 |10=>[2]
 |11=>[2]
 |_=>[]
@[simp] def ab1:Nat→List (List Nat)
 |5=>[[2,4,5,6,7,8,9,14],[2,4,5,6,7,8,9,14],[0,1,4,5,6,7,8,9,14],[4,5,6,7,8,9,14],[0,1,2,3,6,14],[0,1,2,3,6,14],[0,1,2,3,4,5,14],[0,1,2,3,14],[0,1,2,3,14],[0,1,2,3,14],[14],[14],[13,14],[12,14,15],[0,1,2,3,4,5,6,7,8,9,10,11,12,13],[13],[]]
 |_=>[]
@[simp] def UJ:ay:=⟨[],false,[150,200,350],[],false⟩
@[simp] def RR:Nat→List Nat
 |0=>[1,2]
 |1=>[1,2,4]
 |2=>[1,2,4,5]
 |3=>[2,4,5]
 |4=>[2,4,5]
 |5=>[2,4,5]
 |6=>[2,4,5,39]
 |7=>[2,3]
 |8=>[2,3]
 |_=>[]
@[simp] def ab2:Nat→List (List Nat)
 |8=>[[4,5,6,7,8],[4,5,6,7,8],[4,5,6,7,8],[4,5,6,7,8],[0,1,2,3,5,6,7,8],[0,1,2,3,4],[0,1,2,3,4],[0,1,2,3,4],[0,1,2,3,4],[],[],[]]
 |_=>[]
@[simp] def ab3:Nat→List Gh
 |2=>[.adopt 700 3 701 5,.adoptV 700 7 702,.adopt 700 8 703 1]
 |_=>[]
@[simp] def UK:ay:=⟨[],false,[150,200,700,701,702,703],[],false⟩
@[simp] def RS:Nat→List Nat
 |0=>[2,3]
 |1=>[2,3,26]
 |2=>[4]
 |3=>[2,3,5]
 |4=>[2,3,5,31]
 |5=>[2,3,5]
 |6=>[2,3,5,44]
 |7=>[4]
 |8=>[4]
 |_=>[]
@[simp] def ab4:Nat→List (List Nat)
 |6=>[[2,5,6,7,8,9],[2,5,6,7,8,9],[0,1,5,6,7,8,9],[5,6,7,8,9],[5,6,7,8,9],[0,1,2,3,4,7],[0,1,2,3,4,7],[0,1,2,3,4,5,6],[0,1,2,3,4],[0,1,2,3,4],[]]
 |_=>[]
@[simp] def UL:ay:=⟨[],false,[200,250],[],false⟩
@[simp] def RU:Nat→List Nat
 |0=>[]
 |1=>[1]
 |2=>[4,5]
 |3=>[0]
 |_=>[]
@[simp] def ab5:Nat→Bool
 |3=>true
 |_=>false
@[simp] def UM:ay:=⟨[],false,[150,250,300],[],false⟩
@[simp] def RV:Nat→List Nat
 |0=>[1]
 |1=>[2]
 |_=>[]
@[simp] def ab6:Nat→Bool
 |1=>true
 |_=>false
@[simp] def UN:ay:=⟨[],false,[150],[],false⟩
@[simp] def RW:Nat→List Nat
 |0=>[1,2]
 |1=>[1,2]
 |2=>[2]
 |_=>[]
@[simp] def UO:ay:=⟨[],false,[150,200],[],false⟩
@[simp] def RX:Nat→List Nat
 |0=>[0]
 |1=>[0,3]
 |2=>[0,3,4]
 |3=>[0,3,4,9]
 |4=>[0,3,4]
 |5=>[0,3,4]
 |6=>[0,3,4,35]
 |7=>[0,3,4]
 |8=>[0,3,4,5]
 |9=>[0,3,4,5,45]
 |10=>[0,3,4,5]
 |11=>[0,3,4,5]
 |12=>[2]
 |_=>[]
@[simp] def ab7:Nat→Bool
 |6=>true
 |_=>false
@[simp] def ab8:ay:=⟨[],false,[],[],false⟩
@[simp] def RY:Nat→List Nat
 |0=>[1,2]
 |1=>[2,6,7]
 |2=>[4,5]
 |_=>[]
@[simp] def UP:ay:=⟨[],false,[200],[],false⟩
@[simp] def RZ:Nat→List Nat
 |0=>[0]
 |1=>[0,17]
 |2=>[2]
 |3=>[0,3]
 |4=>[0,3,21]
 |5=>[0,3]
 |6=>[0,3,4]
 |7=>[0,3,4,5]
 |8=>[0,3,58]
 |9=>[2]
 |10=>[2]
 |_=>[]
@[simp] def ab9:Nat→Bool
 |1=>true
 |7=>true
 |8=>true
 |_=>false
@[simp] def UQ:ay:=⟨[],false,[],[],false⟩
@[simp] def R0:Nat→List Nat
 |0=>[0]
 |1=>[0,3]
 |2=>[0,3,4]
 |3=>[0,3,4,9]
 |4=>[0,3,4]
 |5=>[0,3,4,18]
 |6=>[2]
 |7=>[2]
 |_=>[]
@[simp] def UR:ay:=⟨[],false,[],[],false⟩
@[simp] def R3:Nat→List Nat
 |0=>[0]
 |1=>[0,3]
 |2=>[0,3,20]
 |3=>[0,3]
 |4=>[0,3,4]
 |5=>[0,3,4,5,6,7]
 |6=>[0,3,4,6,7,59]
 |7=>[2]
 |8=>[0,3,4,7,89]
 |9=>[2]
 |10=>[0,3,4,118]
 |11=>[2]
 |12=>[0,3,4,8,9,10,11,12]
 |13=>[0,3,4,8,9,10,11,12,120]
 |14=>[0,3,4,8,9,10,11,12,120,121]
 |15=>[0,3,4,8,9,10,11,12]
 |16=>[0,3,4,8,9,10,11,12,120,131]
 |17=>[0,3,4,8,9,10,11,12]
 |18=>[0,3,4,8,9,10,11,12,120,139]
 |19=>[0,3,4,8,9,10,11,12]
 |20=>[0,3,4,8,9,10,11,12,120,141]
 |21=>[0,3,4,8,9,10,11,12,120,141]
 |22=>[0,3,4,8,9,10,11,12]
 |23=>[0,3,4,8,9,10,11,12,144]
 |24=>[0,3,4,8,9,10,11,12]
 |25=>[0,3,4,186]
 |26=>[2]
 |27=>[0,3,4,13]
 |28=>[0,3,4,13,191]
 |29=>[0,3,4,13]
 |30=>[0,3,4,13,200]
 |31=>[2]
 |32=>[0,3,4,14]
 |33=>[0,3,4,14,205]
 |34=>[0,3,4,14]
 |35=>[0,3,4,14,224]
 |36=>[2]
 |37=>[0,3,4,14,15]
 |38=>[0,3,4,14,15,232]
 |39=>[0,3,4,14,15]
 |40=>[0,3,4,14,15,243]
 |41=>[2]
 |42=>[0,3,4,16]
 |43=>[0,3,4,16,248]
 |44=>[0,3,4,16]
 |45=>[0,3,4,16,257]
 |46=>[2]
 |47=>[2]
 |_=>[]
@[simp] def aca:Nat→Bool
 |6=>true
 |8=>true
 |10=>true
 |35=>true
 |_=>false
@[simp] def acb:Nat→List (List Nat)
 |15=>[[4,5,6,7],[4,5,6,7],[4,5,6,7],[4,5,6,7],[0,1,2,3,8],[0,1,2,3,8],[0,1,2,3,8],[0,1,2,3,8],[4,5,6,7],[],[]]
 |17=>[[3,4,5],[3,4,5],[3,4,5],[0,1,2,6],[0,1,2,6],[0,1,2,6],[3,4,5],[],[]]
 |24=>[[3,4,5],[3,4,5],[3,4,5],[0,1,2,6],[0,1,2,6],[0,1,2,6],[3,4,5],[]]
 |_=>[]
@[simp] def US:ay:=⟨[],false,[300],[],false⟩
@[simp] def R4:Nat→List Nat
 |0=>[0,1,4]
 |1=>[0,1,4,6]
 |2=>[0,1,4,6,10]
 |3=>[0,1,4,6]
 |4=>[0,1,4,6,19]
 |5=>[4,5]
 |6=>[4,5]
 |_=>[]
@[simp] def UT:ay:=⟨[],false,[300],[],false⟩
@[simp] def R5:Nat→List Nat
 |0=>[1]
 |1=>[1,4]
 |2=>[2]
 |3=>[1,13]
 |4=>[2]
 |5=>[2]
 |_=>[]
@[simp] def UU:ay:=⟨[],false,[150],[],false⟩
@[simp] def R6:Nat→List Nat
 |0=>[0,1,2,6]
 |1=>[0,1,2,6,7]
 |2=>[0,1,2,6,7,12]
 |3=>[0,1,2,6,7]
 |4=>[0,1,2,6,7,8]
 |5=>[0,1,2,6,7,8,24]
 |6=>[6]
 |7=>[6]
 |_=>[]
@[simp] def UW:ay:=⟨[],false,[400,500],[],false⟩
@[simp] def R7:Nat→List Nat
 |0=>[1,2]
 |1=>[1,2,3]
 |2=>[2,3,8,9,10]
 |3=>[2,3,8,9,10,11]
 |4=>[2,3,5,8,9,10]
 |5=>[2,3,5,8,9,10]
 |6=>[2,3,5,6,8,9,10]
 |7=>[2,3,5,6,8,9,10]
 |8=>[2,3,5,8,9,10]
 |9=>[2,3,5,8,9,10,40]
 |10=>[2,3,8,9,10]
 |11=>[2,3,8,9,10]
 |12=>[2]
 |_=>[]
@[simp] def acd:Nat→List Gh
 |1=>[.adopt 250 0 251 1,.adopt 250 2 252 1]
 |_=>[]
@[simp] def UX:ay:=⟨[],false,[150,200,250,251,252,350],[],false⟩
@[simp] def R8:Nat→List Nat
 |0=>[0,6,7,8]
 |1=>[0,6,7,8,9]
 |2=>[0,5,6,7,8]
 |3=>[0,6,7,8]
 |4=>[0,6,7,8]
 |_=>[]
@[simp] def UY:ay:=⟨[1,2,3,4,5,6,7,8],false,[350],[],false⟩
@[simp] def R9:Nat→List Nat
 |0=>[0,6,7,8]
 |1=>[0,6,7,8,9]
 |2=>[0,5,6,7,8]
 |3=>[0,6,7,8]
 |4=>[0,6,7,8]
 |_=>[]
@[simp] def UZ:ay:=⟨[1,2,3,4,5,6,7,8],false,[],[1],false⟩
@[simp] def Sa:Nat→List Nat
 |0=>[0,2,4]
 |1=>[0,2]
 |2=>[0]
 |3=>[0]
 |4=>[6]
 |_=>[]
@[simp] def ace:Nat→List (List Nat)
 |1=>[[1,2,3,4,5,6,7],[0,5,6],[0,5,6],[0,5,6],[0,5,6],[0,1,2,3,4],[0,1,2,3,4],[0],[],[],[]]
 |3=>[[1,2,3,4,5,6,7,8,9],[0,5,6,7,8],[0,5,6,7,8],[0,5,6,7,8],[0,5,6,7,8],[0,1,2,3,4],[0,1,2,3,4],[0,1,2,3,4],[0,1,2,3,4],[0],[],[],[]]
 |_=>[]
@[simp] def U0:ay:=⟨[1,2,3,4,5,6,7,8],false,[300],[],false⟩
@[simp] def Sb:Nat→List Nat
 |0=>[0]
 |1=>[0,14]
 |2=>[2]
 |3=>[0,3]
 |4=>[0,3,4]
 |5=>[0,3,4,19]
 |6=>[0,3,4]
 |7=>[0,3,4,28]
 |8=>[3,4,5]
 |9=>[3,4,5,6]
 |10=>[3,4,5,6,36]
 |11=>[3,4,5,6]
 |12=>[3,4,5,6,7]
 |13=>[3,4,5,6,7,8]
 |14=>[3,4,5,6,7,8,52]
 |15=>[3,4,5,6,7,8]
 |16=>[3,4,5,6,7,8,55]
 |17=>[3,4,5,6,7,8]
 |18=>[3,4,5,6,8]
 |19=>[3,4,5,6]
 |20=>[2]
 |21=>[2]
 |_=>[]
@[simp] def U1:ay:=⟨[],false,[350,500],[],false⟩
@[simp] def Sc:Nat→List Nat
 |0=>[0]
 |1=>[3,4]
 |2=>[3,12]
 |3=>[2]
 |4=>[3,5]
 |5=>[5,21,22]
 |6=>[5,21,22,23]
 |7=>[5,21,22]
 |8=>[5,21,22]
 |9=>[2]
 |_=>[]
@[simp] def acf:Nat→List (List Nat)
 |4=>[[3,4],[3,4],[3,4],[0,1,2],[0,1,2],[],[],[]]
 |_=>[]
@[simp] def U2:ay:=⟨[],false,[250,851],[],false⟩
@[simp] def Sd:Nat→List Nat
 |0=>[0,2,3,4]
 |1=>[2,3,4,5]
 |2=>[2,3,4,5,14]
 |3=>[2,3,4]
 |4=>[2,3,4,5]
 |5=>[2,3,4,6]
 |6=>[2,3,4]
 |_=>[]
@[simp] def acg:Nat→List (List Nat)
 |3=>[[1,2],[0,2,3],[0,1,3,4],[1,2],[2],[]]
 |_=>[]
@[simp] def ach:Nat→List Gh
 |5=>[.adopt 1150 3 1151 8]
 |_=>[]
@[simp] def Hk:ay:=⟨[],false,[200,250,300,1150,1151],[],false⟩
@[simp] def Se:Nat→List Nat
 |0=>[0]
 |1=>[0,3]
 |2=>[3,9,10,11]
 |3=>[3,9,10,11,12]
 |4=>[3,5,9,10,11]
 |5=>[3,5,9,10,11]
 |6=>[3,5,6,9,10,11]
 |7=>[3,5,6,9,10,11,28,29,30]
 |8=>[3,5,6,9,10,11,28,29,30,31]
 |9=>[3,5,6,8,9,10,11,28,29,30]
 |10=>[3,5,6,9,10,11,28,29,30]
 |11=>[3,5,6,9,10,11,28,29,30]
 |12=>[3,5,9,10,11]
 |13=>[3,9,10,11]
 |14=>[3,9,10,11]
 |15=>[2]
 |_=>[]
@[simp] def aci:Nat→List (List Nat)
 |5=>[[3,4,6,7],[3,4,6,7],[3,4,6,7],[0,1,2,6,7],[0,1,2,6,7],[6,7,9],[0,1,2,3,4,5],[0,1,2,3,4,5],[9],[5,8],[],[],[],[],[]]
 |_=>[]
@[simp] def acj:Nat→List Gh
 |1000002=>[.freeze 400]
 |_=>[]
@[simp] def U3:ay:=⟨[],false,[250,350,400],[],false⟩
@[simp] def Sf:Nat→List Nat
 |0=>[0,1]
 |1=>[0,1,6,7]
 |2=>[0,1,6,7,8]
 |3=>[0,1,6,7,8,26]
 |4=>[0,1,6,7,8]
 |5=>[0,1,6,7,8]
 |6=>[0,1,6,7,8,9]
 |7=>[0,1,6,7,8,9,42,43,44]
 |8=>[0,1,6,7,8,9,42,43,44,45]
 |9=>[0,1,6,7,8,9,11,42,43,44]
 |10=>[0,1,6,7,8,9,12,13,42,43,44]
 |11=>[0,1,6,7,8,9,13,42,43,44]
 |12=>[0,1,6,7,8,9,42,43,44]
 |13=>[0,1,6,7,8,9,42,43,44]
 |14=>[0,1,6,7,8,9]
 |15=>[0,1,6,7,8,9,14]
 |16=>[0,1,6,7,8,9,14,88]
 |17=>[0,1,6,7,8,9,14]
 |18=>[0,1,6,7,8,9,14]
 |19=>[0,1,6,7,8,9,15]
 |20=>[0,1,6,7,8,9,15,111]
 |21=>[0,1,6,7,8,9,15]
 |22=>[0,1,6,7,8,9,15,16,17]
 |23=>[0,1,6,7,8,9,15,17]
 |24=>[0,1,6,7,8,9,15]
 |25=>[4,5]
 |_=>[]
@[simp] def U4:ay:=⟨[],false,[550],[],false⟩
@[simp] def Sg:Nat→List Nat
 |0=>[0]
 |1=>[0,5,6,7]
 |2=>[0,5,6,7,8]
 |3=>[0,4,5,6,7]
 |4=>[0,5,6,7,13]
 |5=>[2]
 |6=>[0,5,6,7]
 |7=>[2]
 |_=>[]
@[simp] def U5:ay:=⟨[],false,[],[],false⟩
@[simp] def Si:Nat→List Nat
 |0=>[]
 |1=>[0]
 |_=>[]
@[simp] def ack:ay:=⟨[],false,[],[],false⟩
@[simp] def Sj:Nat→List Nat
 |0=>[0]
 |1=>[2,3,4]
 |_=>[]
@[simp] def U6:ay:=⟨[],false,[],[],false⟩
@[simp] def Sk:Nat→List Nat
 |0=>[0]
 |1=>[0,3]
 |2=>[0,3,11]
 |3=>[0,3]
 |4=>[0,3,4]
 |5=>[0,3,4,5,6,7]
 |6=>[0,3,4,5,6,7,18]
 |7=>[0,3,4,5,6,7,18]
 |8=>[0,3,4,5,6,7,18]
 |9=>[0,3,4,5,6,7,18]
 |10=>[0,3,4,5,6,7,18]
 |11=>[2]
 |12=>[0,3,4,5,6,7,54]
 |13=>[0,3,4,5,6,7]
 |14=>[0,3,4,5,6,7,58]
 |15=>[0,3,4,5,6,7]
 |16=>[0,3,4,5,6,7,62]
 |17=>[0,3,4,5,6,7]
 |18=>[0,3,4,5,6,7,66]
 |19=>[0,3,4,5,6,7]
 |20=>[0,3,4,5,6,7,75]
 |21=>[0,3,4,5,6,7]
 |22=>[0,3,125]
 |23=>[2]
 |24=>[2]
 |_=>[]
@[simp] def acm:Nat→Bool
 |7=>true
 |22=>true
 |_=>false
@[simp] def U7:ay:=⟨[],false,[300],[],false⟩
@[simp] def Sl:Nat→List Nat
 |0=>[1]
 |1=>[2]
 |_=>[]
@[simp] def U8:ay:=⟨[],false,[150],[],false⟩
@[simp] def Sn:Nat→List Nat
 |0=>[0,2,4,6]
 |1=>[0,2,4,6,25]
 |2=>[0,2,4,6,25,26]
 |3=>[0,4,6,7,8]
 |4=>[0,4,6,7,37]
 |5=>[6]
 |6=>[0,4,6,44]
 |7=>[6]
 |8=>[0,4,6,9,10]
 |9=>[0,4,6,9,10,58]
 |10=>[6]
 |11=>[4,6,9,10,11]
 |12=>[4,6,9,10,11,69]
 |13=>[6]
 |14=>[4,6,73]
 |15=>[6]
 |16=>[0,2,4,6,25,77]
 |17=>[0,2,4,6,12]
 |18=>[0,2,4,6,12,83]
 |19=>[0,2,4,6,12]
 |20=>[0,2,4,6,12,90]
 |21=>[0,2,4,6,12,13]
 |22=>[0,2,4,6,12,13,100]
 |23=>[6]
 |24=>[0,2,4,6,12,14]
 |25=>[0,2,4,6,12,14,112]
 |26=>[6]
 |27=>[0,2,4,6,25,114]
 |28=>[0,2,4,6,15]
 |29=>[0,2,4,6,15,122]
 |30=>[6]
 |31=>[0,2,4,6,16]
 |32=>[0,2,4,6,16,128]
 |33=>[0,2,4,6,16]
 |34=>[0,2,4,6,16,17]
 |35=>[0,2,4,6,16,17,141]
 |36=>[6]
 |37=>[0,2,4,6,25,143]
 |38=>[0,4,6,18,19]
 |39=>[0,4,6,18,153]
 |40=>[6]
 |41=>[0,4,6,18,159]
 |42=>[6]
 |43=>[0,4,6,169]
 |44=>[6]
 |45=>[0,4,6,20]
 |46=>[0,4,6,20,177]
 |47=>[0,4,6,20]
 |48=>[0,4,6,20,21]
 |49=>[0,4,6,20,21,189]
 |50=>[6]
 |51=>[6]
 |52=>[0,2,4,6,25,197]
 |53=>[0,4,6,22]
 |54=>[0,4,6,22,205]
 |55=>[6]
 |56=>[6]
 |57=>[0,2,4,6,25,213]
 |58=>[0,4,6,23]
 |59=>[0,4,6,23,223]
 |60=>[6]
 |61=>[6]
 |62=>[0,2,4,6,25,229]
 |63=>[4,6,232]
 |64=>[6]
 |65=>[0,4,6,236]
 |66=>[6]
 |67=>[6]
 |_=>[]
@[simp] def U9:ay:=⟨[],false,[300,400,450,600,750,800,850,950,1000,1150,1200,1250],[],false⟩
@[simp] def So:Nat→List Nat
 |0=>[1]
 |1=>[1,3]
 |2=>[2]
 |3=>[1,12]
 |4=>[2]
 |5=>[2]
 |_=>[]
@[simp] def Va:ay:=⟨[],false,[150],[],false⟩
@[simp] def Sp:Nat→List Nat
 |0=>[2,3]
 |1=>[2,3]
 |2=>[2,3,8]
 |3=>[2,3,8,9]
 |4=>[]
 |5=>[2,3,8,14]
 |6=>[]
 |7=>[2,3,8,24]
 |8=>[]
 |9=>[2,3,8,29]
 |10=>[]
 |11=>[2,3,8,34]
 |12=>[2,3,8,34]
 |13=>[]
 |14=>[2,3,8,40]
 |15=>[2,4]
 |16=>[]
 |17=>[2,3,8,65]
 |18=>[]
 |19=>[2,3,78]
 |20=>[]
 |_=>[]
@[simp] def acn:Nat→List (List Nat)
 |16=>[[4,5,6,7,8,9,10,11,12,13,14,15],[4,5,6,7,8,9,10,11,12,13,14,15],[4,5,6,7,8,9,10,11,12,13,14,15],[4,5,6,7,8,9,10,11,12,13,14,15],[0,1,2,3,5,6,7,8,9,10,11,12,13,14,15],[0,1,2,3,4,9,12,13,14],[0,1,2,3,4,9,12,13,14],[0,1,2,3,4,9,12,13,14],[0,1,2,3,4,9,12,13,14],[0,1,2,3,4,5,6,7,8,12,13,14],[0,1,2,3,4,12,13,14],[0,1,2,3,4,12,13,14],[0,1,2,3,4,5,6,7,8,9,10,11],[0,1,2,3,4,5,6,7,8,9,10,11],[0,1,2,3,4,5,6,7,8,9,10,11],[0,1,2,3,4],[],[]]
 |18=>[[1,2,3,4,5,6,7,8],[0,5,6,7],[0,5,6,7],[0,5,6,7],[0,5,6,7],[0,1,2,3,4],[0,1,2,3,4],[0,1,2,3,4],[0],[],[],[]]
 |_=>[]
@[simp] def aco:Nat→List Gh
 |15=>[.opn 2 101]
 |16=>[.cls 2 101]
 |_=>[]
@[simp] def acp:Nat→List (Nat×Nat)
 |16=>[(0,7),(2,0)]
 |18=>[(0,8)]
 |_=>[]
@[simp] def Vb:ay:=⟨[1,2,3,4,5,6,7,8],false,[101,200,250],[],false⟩
@[simp] def Sq:Nat→List Nat
 |0=>[]
 |_=>[]
@[simp] def acq:Nat→List (List Nat)
 |0=>[[4,5,6],[4,5,6],[4,5,6],[4,5,6],[0,1,2,3,5,6],[0,1,2,3,4],[0,1,2,3,4],[],[],[]]
 |_=>[]
@[simp] def acr:Nat→List (Nat×Nat)
 |0=>[(0,3)]
 |_=>[]
@[simp] def Vc:ay:=⟨[1,2,3,4,5,6,7,8],false,[],[],false⟩
@[simp] def J6:Nat→List Nat
 |0=>[1,2]
 |1=>[1,2,4]
 |2=>[2,4,5]
 |3=>[2,4,5,11]
 |4=>[2,3]
 |5=>[2,3]
 |_=>[]
@[simp] def Oz:ay:=⟨[],false,[150,200],[],false⟩
@[simp] def J7:Nat→List Nat
 |0=>[0,1]
 |1=>[0,1,5]
 |2=>[1,5,12,13,14]
 |3=>[1,5,12,13,14,15]
 |4=>[1,5,7,12,13,14]
 |5=>[1,5,7,8,12,13,14]
 |6=>[1,5,8,9,10,12,13,14]
 |7=>[1,5,8,9,12,13,14,26]
 |8=>[1,5,8,12,13,14]
 |9=>[1,5,12,13,14]
 |10=>[1,5,12,13,14]
 |11=>[4]
 |_=>[]
@[simp] def WM:ay:=⟨[],true,[300,350,500],[],false⟩
@[simp] def J8:Nat→List Nat
 |0=>[0,4]
 |1=>[0,4,13]
 |2=>[2,3,4]
 |3=>[4,5]
 |4=>[4,5,6]
 |5=>[4,5,6,7]
 |6=>[4,5,6,7,8]
 |7=>[4,5,6,8,29]
 |8=>[2,3,4]
 |9=>[4,5,6,8,33]
 |10=>[2,3,4]
 |11=>[4,5,6,8,9,10]
 |12=>[4,5,6,8,9,10,50]
 |13=>[2,3,4]
 |14=>[4,5,6,9]
 |15=>[4,5,6]
 |_=>[]
@[simp] def WN:Nat→List (List Nat)
 |6=>[[4,5,6,7,9],[4,5,6,7,9],[4,5,6,7,9],[4,5,6,7,9],[0,1,2,3,9],[0,1,2,3,9],[0,1,2,3,9],[0,1,2,3,9],[9],[0,1,2,3,4,5,6,7,8],[]]
 |8=>[[1,2],[0],[0],[]]
 |11=>[[2,7],[2,7],[0,1,7],[7],[7],[6,7],[5,7,8],[0,1,2,3,4,5,6],[6],[]]
 |13=>[[1,2],[0,2,3],[0,1],[1],[]]
 |_=>[]
@[simp] def Ft:ay:=⟨[],false,[200,300,400,500,550,950],[],false⟩
@[simp] def J9:Nat→List Nat
 |0=>[0,1,2,3]
 |1=>[0,1,2,3,8]
 |2=>[0,1,2,3,4,5]
 |3=>[0,1,2,3,4,15]
 |4=>[0,1,2,4]
 |5=>[]
 |_=>[]
@[simp] def WO:Nat→List (List Nat)
 |5=>[[1,2,3,4],[0,3,4,5],[0,3,4,5],[0,1,2,5,6],[0,1,2,5,6],[1,2,3,4],[3,4],[]]
 |_=>[]
@[simp] def Cm:ay:=⟨[],false,[300],[],false⟩
@[simp] def Ka:Nat→List Nat
 |0=>[0,2]
 |1=>[0,2]
 |2=>[0,2,3]
 |3=>[0,2,3]
 |4=>[0,2,3]
 |5=>[0,2,3]
 |6=>[0,2,3]
 |7=>[2,3]
 |8=>[2]
 |_=>[]
@[simp] def WQ:ay:=⟨[],false,[200,250],[],false⟩
@[simp] def Kb:Nat→List Nat
 |0=>[1,2]
 |1=>[1,2,3]
 |2=>[1,2,3,20,21,22]
 |3=>[1,2,3,20,21,22,23]
 |4=>[1,2,3,5,20,21,22]
 |5=>[1,2,3,20,21,22]
 |6=>[1,2,3,20,21,22]
 |7=>[1,2,3]
 |8=>[1,2,3,36]
 |9=>[2]
 |10=>[1,2,3,8]
 |11=>[1,2,3,44]
 |12=>[2]
 |13=>[1,2,3,9]
 |14=>[1,2,3,9,10]
 |15=>[1,2,9,10,46,47,48]
 |16=>[1,2,9,10,46,47,48,49]
 |17=>[1,2,9,10,12,46,47,48]
 |18=>[1,2,9,10,13,14,15,46,47,48]
 |19=>[1,2,9,10,13,14,46,47,48,59]
 |20=>[2]
 |21=>[1,2,9,10,14,46,47,48]
 |22=>[1,2,9,10,46,47,48]
 |23=>[1,2,9,10,46,47,48]
 |24=>[1,2,9,10,77]
 |25=>[2]
 |26=>[1,2,16,17,18]
 |27=>[1,2,16,17,98]
 |28=>[2]
 |29=>[2]
 |_=>[]
@[simp] def WR:Nat→Bool
 |27=>true
 |_=>false
@[simp] def OA:ay:=⟨[],false,[150,200,250,350,550,700],[],false⟩
@[simp] def Kc:Nat→List Nat
 |0=>[0]
 |1=>[0,3]
 |2=>[3,6,7,8]
 |3=>[3,6,7,8,9]
 |4=>[3,5,6,7,8]
 |5=>[3,6,7,8]
 |6=>[3,6,7,8]
 |7=>[2]
 |_=>[]
@[simp] def OB:ay:=⟨[],false,[250,350],[],false⟩
@[simp] def Ke:Nat→List Nat
 |0=>[0,1]
 |1=>[0,1,6,7]
 |2=>[0,1,6,7,8]
 |3=>[0,1,6,7,8,19]
 |4=>[0,1,6,7,8]
 |5=>[0,1,6,7,8,9,10]
 |6=>[0,1,6,7,8,10]
 |7=>[0,1,6,7,8]
 |8=>[4,5]
 |_=>[]
@[simp] def OC:ay:=⟨[],false,[],[],false⟩
@[simp] def Kf:Nat→List Nat
 |0=>[0,3,5]
 |1=>[0,3,5,6]
 |2=>[0,3,5,6,21]
 |3=>[0,3,5,6,21,22]
 |4=>[0,3,5,6,21,22]
 |5=>[4,5]
 |6=>[0,3,5,6,21,28]
 |7=>[0,3,5,6,21,28]
 |8=>[0,3,5,6,28]
 |9=>[0,3,5,6,7,8]
 |10=>[0,3,5,6,7,40]
 |11=>[4,5]
 |12=>[0,3,5,6,7,46]
 |13=>[3,5,6,7,49]
 |14=>[4,5]
 |15=>[3,5,9,10]
 |16=>[3,5,9,60]
 |17=>[4,5]
 |18=>[4,5]
 |19=>[0,3,5,6,7,77]
 |20=>[4,5]
 |21=>[0,3,5,7,81]
 |22=>[5,7,11]
 |23=>[5,7,11,90]
 |24=>[4,5]
 |25=>[4,5]
 |26=>[0,3,5,6,12,13]
 |27=>[0,3,5,6,12,13,106]
 |28=>[4,5]
 |29=>[0,3,5,6,12,13,14]
 |30=>[0,3,5,6,12,13,14,112]
 |31=>[3,5,6,12,13,14]
 |32=>[3,5,6,12,13,14,124]
 |33=>[4,5]
 |34=>[3,5,6,12,14,15]
 |35=>[3,5,6,12,14,15,16]
 |36=>[5,6,12,14,15,16,127]
 |37=>[5,6,12,14,15,16,127,128]
 |38=>[5,6,12,14,15,16,127,128]
 |39=>[5,6,12,14,15,16,127,128]
 |40=>[5,6,12,14,15,16,127,128]
 |41=>[5,6,12,14,15,16,127,128]
 |42=>[5,6,12,14,15,16,127,128]
 |43=>[5,6,12,14,15,16]
 |44=>[5,6,12,14,15,16,127,135]
 |45=>[5,6,12,14,15,16,127,135]
 |46=>[5,6,12,14,15,16]
 |47=>[5,6,12,14,15,16,127,139]
 |48=>[5,6,12,14,15,16,127,139]
 |49=>[5,6,12,14,15,16,127,139]
 |50=>[5,6,12,14,15,16,139]
 |51=>[5,6,12,14,15,16]
 |52=>[5,6,16,151]
 |53=>[4,5]
 |54=>[4,5]
 |_=>[]
@[simp] def WS:Nat→List (List Nat)
 |11=>[[3],[3],[3],[0,1,2],[]]
 |14=>[[1],[0],[]]
 |17=>[[3],[3],[3],[0,1,2],[]]
 |20=>[[1],[0],[]]
 |24=>[[1],[0],[]]
 |28=>[[1],[0],[]]
 |33=>[[1],[0],[]]
 |53=>[[1],[0],[]]
 |_=>[]
@[simp] def OD:ay:=⟨[],false,[250,350,400,450,550,650,750],[],false⟩
@[simp] def Kg:Nat→List Nat
 |0=>[0,2,4,6]
 |1=>[2,4,6,7,8]
 |2=>[4,6,8,22]
 |3=>[6]
 |4=>[6]
 |_=>[]
@[simp] def OE:ay:=⟨[],false,[300,400,500],[],false⟩
@[simp] def Kh:Nat→List Nat
 |0=>[0,3,4]
 |1=>[0,3,4,5,6]
 |2=>[0,3,4,5,20]
 |3=>[4]
 |4=>[0,3,4,5,26]
 |5=>[4]
 |6=>[0,3,4,5,7]
 |7=>[0,3,4,5,7,34]
 |8=>[0,3,4,5,7]
 |9=>[0,3,4,5,7,8,9]
 |10=>[0,3,4,5,7,8,54]
 |11=>[4]
 |12=>[0,3,4,5,7,8,10]
 |13=>[0,3,4,5,7,8,10,60]
 |14=>[0,3,4,5,7,8,10]
 |15=>[0,3,4,5,7,8,10,73]
 |16=>[4]
 |17=>[0,3,4,5,7,11]
 |18=>[0,3,4,5,7,11,88]
 |19=>[4]
 |20=>[4]
 |_=>[]
@[simp] def WT:Nat→List (List Nat)
 |9=>[[2,3,4,5,6,11],[2,3,4,5,6,11],[0,1,4,11],[0,1,4,11],[0,1,2,3,11],[0,1,11],[0,1,11],[11],[11],[10,11],[9,11,12],[0,1,2,3,4,5,6,7,8,9,10],[10],[]]
 |15=>[[2,5,6,7,8,9],[2,5,6,7,8,9],[0,1,5,6,7,8,9],[5,6,7,8,9],[5,6,7,8,9],[0,1,2,3,4,7],[0,1,2,3,4,7],[0,1,2,3,4,5,6],[0,1,2,3,4],[0,1,2,3,4],[]]
 |17=>[[1,2,3,4,5,6,7,9],[0,3,6,7,9],[0,3,6,7,9],[0,1,2,6,7,9],[0,6,7,9],[0,6,7,9],[0,1,2,3,4,5,9],[0,1,2,3,4,5,9],[9],[0,1,2,3,4,5,6,7,8],[]]
 |_=>[]
@[simp] def OF:ay:=⟨[],false,[250,300,350,500,650],[],false⟩
@[simp] def Ki:Nat→List Nat
 |0=>[]
 |_=>[]
@[simp] def OG:ay:=⟨[1,2,3,4,5,6,7,8],false,[],[],false⟩
@[simp] def Kj:Nat→List Nat
 |0=>[0,3]
 |1=>[0,3,4,5]
 |2=>[0,3,4,5,22]
 |3=>[0,4]
 |4=>[]
 |5=>[0,3,4,5]
 |6=>[0,4,5]
 |7=>[]
 |_=>[]
@[simp] def WU:Nat→List (List Nat)
 |1=>[[4,5,6,12],[4,5,6,12],[4,5,6,12],[4,5,6,12],[0,1,2,3,12],[0,1,2,3,12],[0,1,2,3,12],[12],[12],[10,11,12],[9,11,12,13],[9,10,12,13,14],[0,1,2,3,4,5,6,7,8,9,10,11],[10,11],[11],[]]
 |_=>[]
@[simp] def OH:ay:=⟨[1,2,3,4,5,6,7,8],false,[250,350],[],false⟩
@[simp] def Kk:Nat→List Nat
 |0=>[0,1,2,3,8]
 |1=>[0,1,2,3,8,12,13,14]
 |2=>[0,1,2,3,8,12,13,14,15]
 |3=>[0,1,2,3,8,9,10,12,13,14]
 |4=>[0,1,2,3,8,9,10,11,12,13,14]
 |5=>[0,1,2,3,8,9,10,11,12,13,14,21]
 |6=>[0,1,2,3,8,9,10,12,13,14]
 |7=>[0,1,2,3,8,9,10,11,12,13,14]
 |8=>[0,1,2,3,8,9,11,12,13,14]
 |9=>[0,1,2,3,8,11,12,13,14,34]
 |10=>[0,1,2,3,8,11,12,13,14]
 |11=>[0,1,2,3,8,11,12,13,14,41]
 |12=>[0,1,2,3,8,12,13,14]
 |13=>[0,1,2,3,8,12,13,14]
 |14=>[]
 |_=>[]
@[simp] def OI:ay:=⟨[1,2,3,4,5,6,7,8],false,[500],[],false⟩
@[simp] def Kl:Nat→List Nat
 |0=>[]
 |_=>[]
@[simp] def WV:Nat→List (List Nat)
 |0=>[[1,2,3,4,5],[0,3],[0,3],[0,1,2],[0],[0],[]]
 |_=>[]
@[simp] def OJ:ay:=⟨[1,2,3,4,5,6,7,8],false,[],[],false⟩
@[simp] def Km:Nat→List Nat
 |0=>[0,3]
 |1=>[0,3,20]
 |2=>[0,3,20,21]
 |3=>[0,3,20,21]
 |4=>[3]
 |5=>[4]
 |6=>[0,3,20,32]
 |7=>[0,5,6]
 |8=>[6]
 |9=>[4]
 |10=>[0,3,20,53]
 |11=>[0,3,8,9]
 |12=>[0,8,9]
 |13=>[0,8,9,11]
 |14=>[0,8,9,11,74]
 |15=>[0,8,9,11]
 |16=>[9]
 |17=>[4]
 |18=>[0,3,87]
 |19=>[0,12,13]
 |20=>[13]
 |21=>[4]
 |22=>[0,3,15]
 |23=>[0,3,15,111,112,113]
 |24=>[0,3,15,111,112,113,114]
 |25=>[0,3,17,111,112,113]
 |26=>[0,3,15,111,112,113]
 |27=>[0,3,15,111,112,113]
 |28=>[0,3,15,18]
 |29=>[0,3,18,124]
 |30=>[0,3,18]
 |31=>[3]
 |32=>[4]
 |_=>[]
@[simp] def WW:Nat→List (List Nat)
 |7=>[[4,5,11],[4,5,11],[4,5,11],[4,5,11],[0,1,2,3,11],[0,1,2,3,11],[11],[11],[9,10,11],[8,10,11,12],[8,9,11,12,13],[0,1,2,3,4,5,6,7,8,9,10],[9,10],[10],[]]
 |11=>[[4,5,11],[4,5,11],[4,5,11],[4,5,11],[0,1,2,3,11],[0,1,2,3,11],[11],[11],[9,10,11],[8,10,11,12],[8,9,11,12,13],[0,1,2,3,4,5,6,7,8,9,10],[9,10],[10],[]]
 |19=>[[4,5,6,7,13],[4,5,6,7,13],[4,5,6,7,13],[4,5,6,7,13],[0,1,2,3,6,7,13],[0,1,2,3,6,7,13],[0,1,2,3,4,5,13],[0,1,2,3,4,5,13],[13],[13],[11,12,13],[10,12,13,14],[10,11,13,14,15],[0,1,2,3,4,5,6,7,8,9,10,11,12],[11,12],[12],[]]
 |_=>[]
@[simp] def OK:ay:=⟨[1,2,3,4,5,6,7,8],false,[250,400,550,750,950,1000],[],false⟩
@[simp] def Kn:Nat→List Nat
 |0=>[2,3]
 |1=>[2,3,4]
 |2=>[2,3,4]
 |3=>[2,3,4]
 |4=>[]
 |_=>[]
@[simp] def OL:ay:=⟨[1,2,3,4,5,6,7,8],false,[200,250,300],[],false⟩
@[simp] def Ko:Nat→List Nat
 |0=>[2,3]
 |1=>[2,3,4]
 |2=>[2,3,4,5]
 |3=>[2,3,4,5,24,25,26]
 |4=>[2,3,4,5,24,25,26,27]
 |5=>[2,3,4,5,9,24,25,26]
 |6=>[2,3,4,5,24,25,26]
 |7=>[2,3,4,5,24,25,26]
 |8=>[2,3,4,5]
 |9=>[2,3,4,5]
 |10=>[2,3,4,5]
 |11=>[]
 |_=>[]
@[simp] def WX:Nat→List (List Nat)
 |2=>[[4,5,11,12],[4,5,11,12],[4,5,11,12],[4,5,11,12],[0,1,2,3,11,12],[0,1,2,3,11,12],[11,12],[11,12],[9,10,11,12],[8,10,11,12,13],[8,9,11,12,13,14],[0,1,2,3,4,5,6,7,8,9,10,12],[0,1,2,3,4,5,6,7,8,9,10,11],[9,10],[10],[]]
 |_=>[]
@[simp] def OM:ay:=⟨[1,2,3,4,5,6,7,8],false,[200,250,300,350,400,550],[],false⟩
@[simp] def Kq:Nat→List Nat
 |0=>[2,3]
 |1=>[]
 |_=>[]
@[simp] def ON:ay:=⟨[1,2,3,4,5,6,7,8],false,[200,250],[],false⟩
@[simp] def Kr:Nat→List Nat
 |0=>[0,1]
 |1=>[4]
 |_=>[]
@[simp] def OO:ay:=⟨[1,2,3,4,5,6,7,8],false,[],[],false⟩
@[simp] def Ks:Nat→List Nat
 |0=>[0,3]
 |1=>[0,3,4,5]
 |2=>[0,3,4,5,24,25,26]
 |3=>[0,3,4,5,24,25,26,27]
 |4=>[0,3,4,5,7,8,24,25,26]
 |5=>[0,3,4,5,7,9,24,25,26]
 |6=>[0,3,4,5,9,24,25,26]
 |7=>[0,3,4,5,24,25,26]
 |8=>[0,3,4,5,24,25,26]
 |9=>[]
 |_=>[]
@[simp] def WY:Nat→List (List Nat)
 |1=>[[4,5,11],[4,5,11],[4,5,11],[4,5,11],[0,1,2,3,11],[0,1,2,3,11],[11],[11],[9,10,11],[8,10,11,12],[8,9,11,12,13],[0,1,2,3,4,5,6,7,8,9,10],[9,10],[10],[]]
 |5=>[[4,5,6,12],[4,5,6,12],[4,5,6,12],[4,5,6,12],[0,1,2,3,6,12],[0,1,2,3,6,12],[0,1,2,3,4,5,12],[12],[12],[10,11,12],[9,11,12,13],[9,10,12,13,14],[0,1,2,3,4,5,6,7,8,9,10,11],[10,11],[11],[]]
 |_=>[]
@[simp] def OP:ay:=⟨[1,2,3,4,5,6,7,8],false,[250,350,600],[],false⟩
@[simp] def Ku:Nat→List Nat
 |0=>[0]
 |1=>[2]
 |_=>[]
@[simp] def OQ:ay:=⟨[1,2,3,4,5,6,7,8],false,[],[],false⟩
@[simp] def Kv:Nat→List Nat
 |0=>[0,1,2]
 |1=>[0,1,2,11,12,13]
 |2=>[0,1,2,11,12,13,14]
 |3=>[0,1,2,10,11,12,13]
 |4=>[0,1,2,11,12,13,25]
 |5=>[6,7,8]
 |6=>[0,1,2,11,12,13]
 |7=>[0,1,2,27]
 |8=>[6,7,8]
 |9=>[0,1,2,40]
 |10=>[6,7,8]
 |11=>[0,1,44]
 |12=>[6,7,8]
 |13=>[0,1,57]
 |14=>[6,7,8]
 |15=>[0,1,75]
 |16=>[6,7,8]
 |17=>[6,7,8]
 |_=>[]
@[simp] def WZ:Nat→List (List Nat)
 |12=>[[1,2,3,4,5,6],[0,4,5,6],[0,4,5,6],[0,4,5,6],[0,1,2,3],[0,1,2,3],[0,1,2,3],[],[9,10],[8,10],[8,9],[],[],[]]
 |14=>[[1,2,3,4,5,6],[0,4,5,6],[0,4,5,6],[0,4,5,6],[0,1,2,3],[0,1,2,3],[0,1,2,3],[],[9,10],[8,10],[8,9],[],[],[]]
 |16=>[[1,2,3,4,5,6],[0,4,5,6],[0,4,5,6],[0,4,5,6],[0,1,2,3],[0,1,2,3],[0,1,2,3],[],[9,10],[8,10],[8,9],[],[],[]]
 |_=>[]
@[simp] def OR:ay:=⟨[],false,[],[],false⟩
@[simp] def Kw:Nat→List Nat
 |0=>[]
 |1=>[0]
 |_=>[]
@[simp] def W0:ay:=⟨[],false,[],[],false⟩
@[simp] def Kx:Nat→List Nat
 |0=>[0,1]
 |1=>[0,1,7,8]
 |2=>[0,1,7,8,9]
 |3=>[0,1,5,7,8]
 |4=>[0,1,5,7,8,16]
 |5=>[4]
 |6=>[0,1,7,8]
 |7=>[4]
 |_=>[]
@[simp] def OS:ay:=⟨[],false,[],[],false⟩
@[simp] def Ky:Nat→List Nat
 |0=>[1,2]
 |1=>[3]
 |_=>[]
@[simp] def OT:ay:=⟨[],false,[200],[],false⟩
@[simp] def Kz:Nat→List Nat
 |0=>[0]
 |1=>[0,3]
 |2=>[0,3,4]
 |3=>[0,3,4,5]
 |4=>[0,3,4,5,6]
 |5=>[0,3,4,5,6,16]
 |6=>[0,3,4,5,6]
 |7=>[0,3,4,5,6,7]
 |8=>[0,3,4,5,6,7]
 |9=>[0,3,4,5,6,8]
 |10=>[0,3,5,6,8]
 |11=>[0,3,4,5,6]
 |12=>[0,3,37]
 |13=>[2]
 |14=>[0,9]
 |15=>[0,9,10]
 |16=>[0,9,10]
 |17=>[0,9,10,12]
 |18=>[0,9,10,12,53]
 |19=>[0,9,10,12]
 |20=>[0,9,10,11,12]
 |21=>[0,9,10,11,12,60]
 |22=>[0,9,10,11,12,66]
 |23=>[0,9,10,11,12]
 |24=>[0,9,10,12]
 |25=>[0,9,10,12]
 |26=>[0,9,10,12]
 |27=>[0,9,10,12,91]
 |28=>[0,9,10,12]
 |29=>[0,9,10,11,12]
 |30=>[0,9,10,11,98]
 |31=>[9]
 |32=>[2]
 |_=>[]
@[simp] def W1:Nat→Bool
 |18=>true
 |27=>true
 |_=>false
@[simp] def W2:ay:=⟨[],false,[2150],[],false⟩
@[simp] def KA:Nat→List Nat
 |0=>[0,1]
 |1=>[4,5]
 |_=>[]
@[simp] def W3:ay:=⟨[],false,[],[],false⟩
@[simp] def KB:Nat→List Nat
 |0=>[0]
 |1=>[0,3]
 |2=>[2]
 |3=>[0,3,8]
 |4=>[2]
 |5=>[0,3,11]
 |6=>[0]
 |7=>[0,3,27]
 |8=>[0,3,4]
 |9=>[0,3,4,33]
 |10=>[0,4]
 |11=>[0]
 |12=>[0,3,39]
 |13=>[0,5]
 |14=>[0,5,46]
 |15=>[2]
 |16=>[0]
 |_=>[]
@[simp] def W4:Nat→Bool
 |5=>true
 |_=>false
@[simp] def OU:ay:=⟨[],false,[],[],false⟩
@[simp] def KC:Nat→List Nat
 |0=>[0]
 |1=>[2]
 |_=>[]
@[simp] def W5:Nat→List (List Nat)
 |1=>[[4,5,6,7],[4,5,6,7],[4,5,6,7],[4,5,6,7],[0,1,2,3],[0,1,2,3],[0,1,2,3],[0,1,2,3],[],[]]
 |_=>[]
@[simp] def OV:ay:=⟨[],false,[],[],false⟩
@[simp] def KD:Nat→List Nat
 |0=>[0,3,4]
 |1=>[0,3,4]
 |2=>[0,3,4,6]
 |3=>[0,3,4,6,13]
 |4=>[4,5]
 |5=>[0,3,4,6]
 |6=>[0,3,4,16]
 |7=>[0,3,4,6]
 |8=>[0,3,4,6]
 |9=>[0,3,4,6,26]
 |10=>[0,3,4,6]
 |11=>[0,3,4,6,29]
 |12=>[4,5]
 |13=>[0,3,4,31]
 |14=>[0,3,4,7,8,9]
 |15=>[0,3,4,7,8,9,42]
 |16=>[4,5]
 |17=>[0,3,4,6,8]
 |18=>[0,3,4,6]
 |19=>[3,4]
 |20=>[4,5]
 |_=>[]
@[simp] def OW:ay:=⟨[],false,[250,300],[],false⟩
@[simp] def KI:Nat→List Nat
 |0=>[0,4,5]
 |1=>[0,4,5,6]
 |2=>[0,4,5]
 |3=>[0,4,5,23]
 |4=>[0,4,5]
 |5=>[0,4,5]
 |6=>[0,4,5]
 |7=>[0,4,5]
 |_=>[]
@[simp] def W6:Nat→List (List Nat)
 |3=>[[4,5,6,7],[4,5,6,7],[4,5,6,7],[4,5,6,7],[0,1,2,3],[0,1,2,3],[0,1,2,3],[0,1,2,3],[],[]]
 |_=>[]
@[simp] def OX:ay:=⟨[],false,[],[],false⟩
@[simp] def KJ:Nat→List Nat
 |0=>[0,7]
 |1=>[]
 |_=>[]
@[simp] def W7:ay:=⟨[1],false,[],[],false⟩
@[simp] def KK:Nat→List Nat
 |0=>[0,1,4]
 |1=>[0,4,9]
 |2=>[0,4]
 |3=>[4]
 |_=>[]
@[simp] def W8:ay:=⟨[1],false,[300],[],false⟩
@[simp] def KL:Nat→List Nat
 |0=>[0,2]
 |1=>[0,2,3]
 |2=>[0,6]
 |3=>[0,2]
 |4=>[0,9]
 |5=>[0,2]
 |6=>[0,2,14]
 |7=>[0,2]
 |_=>[]
@[simp] def W9:ay:=⟨[],false,[],[],false⟩
@[simp] def KM:Nat→List Nat
 |0=>[0,1]
 |1=>[0,1,5]
 |2=>[0,1,5,10]
 |3=>[0,1,5]
 |4=>[4]
 |_=>[]
@[simp] def Xa:ay:=⟨[1],false,[350],[],false⟩
@[simp] def KN:Nat→List Nat
 |0=>[1]
 |1=>[1,5]
 |2=>[2,3,4]
 |3=>[1,11]
 |4=>[2,3,4]
 |5=>[1,17]
 |6=>[2,3,4]
 |7=>[2,3,4]
 |_=>[]
@[simp] def Xb:Nat→Bool
 |5=>true
 |_=>false
@[simp] def OY:ay:=⟨[],false,[150],[],false⟩
@[simp] def KO:Nat→List Nat
 |0=>[0]
 |1=>[3]
 |2=>[2]
 |3=>[2]
 |_=>[]
@[simp] def OZ:ay:=⟨[],false,[],[],false⟩
@[simp] def KP:Nat→List Nat
 |0=>[0,1,2,6]
 |1=>[0,2,6,7]
 |2=>[6]
 |3=>[0,2,6,12]
 |4=>[6]
 |5=>[6]
 |_=>[]
@[simp] def O0:ay:=⟨[],false,[400],[],false⟩
@[simp] def KQ:Nat→List Nat
 |0=>[0,1,4]
 |1=>[1,4,6]
 |2=>[1,4,6,7]
 |3=>[1,4,6,7,13]
 |4=>[1,4,6,7]
 |5=>[1,4,6,7,26]
 |6=>[4,5]
 |7=>[4,5]
 |_=>[]
@[simp] def Xc:Nat→Bool
 |5=>true
 |_=>false
@[simp] def O1:ay:=⟨[],false,[300],[],false⟩
@[simp] def KR:Nat→List Nat
 |0=>[0,3,4]
 |1=>[3,4,5,6]
 |2=>[3,4,6,19]
 |3=>[4]
 |4=>[4]
 |_=>[]
@[simp] def O2:ay:=⟨[],false,[250,300,400],[],false⟩
@[simp] def KT:Nat→List Nat
 |0=>[1,2,5]
 |1=>[1,2,5,7]
 |2=>[1,5,7,11,12,13]
 |3=>[1,5,7,11,12,13,14]
 |4=>[1,5,7,9,11,12,13]
 |5=>[1,5,7,9,11,12,13,20]
 |6=>[4,5,6]
 |7=>[1,5,7,11,12,13]
 |8=>[1,5,7,11,12,13]
 |9=>[4,5,6]
 |_=>[]
@[simp] def Xd:Nat→List (List Nat)
 |6=>[[1],[0,2],[1],[],[]]
 |_=>[]
@[simp] def O3:ay:=⟨[],false,[200,350,550],[],false⟩
@[simp] def KU:Nat→List Nat
 |0=>[]
 |_=>[]
@[simp] def O4:ay:=⟨[1,2,3,4,5,6,7,8],false,[],[],false⟩
@[simp] def KV:Nat→List Nat
 |0=>[0,1]
 |1=>[4]
 |_=>[]
@[simp] def O5:ay:=⟨[1,2,3,4,5,6,7,8],false,[],[],false⟩
@[simp] def KW:Nat→List Nat
 |0=>[0,1,2,6]
 |1=>[0,1,6,8]
 |2=>[0,1,6]
 |3=>[]
 |_=>[]
@[simp] def O6:ay:=⟨[1,2,3,4,5,6,7,8],false,[],[],false⟩
@[simp] def KX:Nat→List Nat
 |0=>[1,3,5,7]
 |1=>[5,7,9,10,11]
 |2=>[5,7,9,10,31]
 |3=>[6,7,8]
 |4=>[5,7,9,12]
 |5=>[7,9,12,13]
 |6=>[7,9,12,13,40]
 |7=>[6,7,8]
 |8=>[6,7,8]
 |_=>[]
@[simp] def Xe:Nat→List (List Nat)
 |8=>[[1,3,4,5,6],[0,3,4,5,6],[3,4,5,6],[0,1,2,4,7],[0,1,2,3,7],[0,1,2,7],[0,1,2,7],[3,4,5,6],[],[]]
 |_=>[]
@[simp] def O7:ay:=⟨[],false,[250,350,450,600],[],false⟩
@[simp] def KY:Nat→List Nat
 |0=>[0,1]
 |1=>[0,1,5]
 |2=>[5]
 |3=>[4]
 |_=>[]
@[simp] def O8:ay:=⟨[1,2,3,4,5,6,7,8],false,[],[],false⟩
@[simp] def KZ:Nat→List Nat
 |0=>[0,1,2,3]
 |1=>[1,3,5]
 |2=>[1,3,5,6]
 |3=>[1,3,5,6,19]
 |4=>[1,3,5,6]
 |5=>[1,3,5,6]
 |6=>[1,3,5,6]
 |_=>[]
@[simp] def Xf:Nat→List (List Nat)
 |5=>[[1,2,3,4,5,6,7,8,9,10,11],[0,2,3,4,5,6,7,8,9,10],[0,1,3,6,7,8,9,10],[0,1,2,6,7,8,9,10],[0,1,6,7,8,9,10],[0,1,6,7,8,9,10],[0,1,2,3,4,5,7,8],[0,1,2,3,4,5,6],[0,1,2,3,4,5,6],[0,1,2,3,4,5],[0,1,2,3,4,5],[0],[]]
 |_=>[]
@[simp] def O9:ay:=⟨[1,2,3,4,5,6,7,8],false,[],[],false⟩
@[simp] def K0:Nat→List Nat
 |0=>[0,1]
 |1=>[0]
 |2=>[0,4]
 |3=>[0,4,5]
 |4=>[0,5]
 |5=>[]
 |_=>[]
@[simp] def Xg:Nat→List Gh
 |2=>[.opn 4 101,.opn 6 101]
 |4=>[.shut 4,.shut 6]
 |_=>[]
@[simp] def Pa:ay:=⟨[1,2,3,4,5,6,7,8],false,[101,650],[],false⟩
@[simp] def K1:Nat→List Nat
 |0=>[0,1,2,3,4]
 |1=>[0,1,2,3,4]
 |2=>[0,1,2,3,4]
 |3=>[0,1,2,3,4,5]
 |4=>[0,1,2,4,5]
 |5=>[0,1,2,4,5]
 |6=>[0,1,4,5]
 |7=>[0,1,4,5]
 |8=>[0,4,5]
 |9=>[0,5]
 |10=>[]
 |_=>[]
@[simp] def Xh:Nat→List (List Nat)
 |4=>[[1,2,3,4],[0],[0],[0],[0],[]]
 |_=>[]
@[simp] def Pb:ay:=⟨[1,2,3,4,5,6,7,8],false,[],[],false⟩
@[simp] def K2:Nat→List Nat
 |0=>[0,1,2]
 |1=>[0,1,2,8]
 |2=>[0,1,2]
 |3=>[0,1,2]
 |4=>[0,2]
 |5=>[]
 |6=>[0,1,2]
 |7=>[0,1,2]
 |8=>[0,1,2,3]
 |9=>[0,2,3]
 |10=>[0,3]
 |11=>[]
 |_=>[]
@[simp] def Xi:Nat→List (List Nat)
 |2=>[[1,2,3,4],[0],[0],[0],[0],[]]
 |9=>[[1,2,3,4],[0],[0],[0],[0],[]]
 |_=>[]
@[simp] def Pc:ay:=⟨[1,2,3,4,5,6,7,8],false,[],[],false⟩
@[simp] def K3:Nat→List Nat
 |0=>[0,1,2]
 |1=>[0,1,2,11]
 |2=>[9,10]
 |3=>[9,24]
 |4=>[6,7,8]
 |5=>[6,7,8]
 |6=>[1,26]
 |7=>[6,7,8]
 |8=>[6,7,8]
 |_=>[]
@[simp] def Pd:ay:=⟨[],false,[],[],false⟩
@[simp] def K4:Nat→List Nat
 |0=>[0,1,2]
 |1=>[1,2,9]
 |2=>[1,2,9,10]
 |3=>[6,7,8]
 |4=>[1,2,9,16]
 |5=>[1,2,9,16]
 |6=>[6,7,8]
 |7=>[1,2,9,23]
 |8=>[6,7,8]
 |9=>[1,2,28]
 |10=>[6,7,8]
 |11=>[6,7,8]
 |_=>[]
@[simp] def Pe:ay:=⟨[],false,[],[],false⟩
@[simp] def K5:Nat→List Nat
 |0=>[0,1,2]
 |1=>[0,1,2,9]
 |2=>[0,1,2,9,10]
 |3=>[0,1,2,9,10,11]
 |4=>[1,2,9,10,11,12]
 |5=>[1,2,9,10,11,12,13]
 |6=>[9,10,11]
 |7=>[1,2,9,10,11,12,21]
 |8=>[9,10,11]
 |9=>[1,2,9,10,11,12,29]
 |10=>[9,10,11]
 |11=>[1,2,9,10,11,12,37]
 |12=>[9,10,11]
 |13=>[1,2,9,10,11,45]
 |14=>[9,10,11]
 |15=>[9,10,11,53]
 |16=>[6,7,8]
 |17=>[9,56]
 |18=>[6,7,8]
 |19=>[6,7,8]
 |_=>[]
@[simp] def Pf:ay:=⟨[],false,[],[],false⟩
@[simp] def K6:Nat→List Nat
 |0=>[0,1,2]
 |1=>[0,1,2,9]
 |2=>[1,2,9,10]
 |3=>[1,2,9,10,11]
 |4=>[9]
 |5=>[1,2,9,10,16]
 |6=>[9]
 |7=>[1,2,9,10,21]
 |8=>[9]
 |9=>[1,2,9,10,26]
 |10=>[9]
 |11=>[1,2,9,10,31]
 |12=>[9]
 |13=>[1,2,9,36]
 |14=>[9]
 |15=>[6,7,8]
 |_=>[]
@[simp] def Ph:ay:=⟨[],false,[],[],false⟩
@[simp] def K7:Nat→List Nat
 |0=>[0,1]
 |1=>[0,1,5]
 |2=>[0,1,5,6]
 |3=>[0,1,5,6,14]
 |4=>[0,1,5,6,14,15,16]
 |5=>[0,1,5,6,7,8,14]
 |6=>[0,1,5,6,7,14,21]
 |7=>[0,1,5,6,7,14,23]
 |8=>[0,1,5,6,14]
 |9=>[0,1,5,6,14]
 |10=>[0,1,5,6,7,14,33]
 |11=>[0,1,5,6,14]
 |12=>[0,5,6,36]
 |13=>[0,5]
 |14=>[0,5,9]
 |15=>[0,9,47,48,49]
 |16=>[0,9,47,48,49,50]
 |17=>[0,9,10,11,47,48,49]
 |18=>[0,9,47,48,49]
 |19=>[0,9,47,48,49]
 |20=>[4]
 |_=>[]
@[simp] def Xj:ay:=⟨[],false,[650,700,2400],[],false⟩
@[simp] def K8:Nat→List Nat
 |0=>[0]
 |1=>[0,5]
 |2=>[6]
 |3=>[6,7]
 |4=>[6,7]
 |5=>[6,7]
 |6=>[6,7]
 |7=>[6,7]
 |8=>[6,7]
 |9=>[6,7]
 |10=>[7]
 |11=>[2]
 |12=>[2]
 |13=>[2]
 |_=>[]
@[simp] def Xk:ay:=⟨[],false,[],[],false⟩
@[simp] def K9:Nat→List Nat
 |0=>[0,1]
 |1=>[0,1,9]
 |2=>[4,5]
 |3=>[4,5]
 |_=>[]
@[simp] def Xl:ay:=⟨[],false,[],[],false⟩
@[simp] def La:Nat→List Nat
 |0=>[0,1]
 |1=>[4]
 |_=>[]
@[simp] def Xm:ay:=⟨[],false,[],[],false⟩
@[simp] def Lc:Nat→List Nat
 |0=>[0,1]
 |1=>[4]
 |_=>[]
@[simp] def Pj:ay:=⟨[],false,[],[],false⟩
@[simp] def Ld:Nat→List Nat
 |0=>[0,1]
 |1=>[4]
 |_=>[]
@[simp] def Xn:ay:=⟨[],false,[],[],false⟩
@[simp] def Lf:Nat→List Nat
 |0=>[0]
 |1=>[2]
 |_=>[]
@[simp] def Xo:Nat→Bool
 |1=>true
 |_=>false
@[simp] def Pk:ay:=⟨[],false,[],[],false⟩
@[simp] def Lg:Nat→List Nat
 |0=>[0,1]
 |1=>[0,1,5]
 |2=>[0,1,5,16]
 |3=>[0,1,5]
 |4=>[4]
 |_=>[]
@[simp] def Xp:Nat→Bool
 |2=>true
 |_=>false
@[simp] def Pm:ay:=⟨[],false,[],[],false⟩
@[simp] def Lh:Nat→List Nat
 |0=>[0]
 |1=>[2]
 |_=>[]
@[simp] def Xq:Nat→Bool
 |1=>true
 |_=>false
@[simp] def Po:ay:=⟨[],false,[],[],false⟩
@[simp] def Li:Nat→List Nat
 |0=>[0]
 |1=>[2]
 |_=>[]
@[simp] def Pp:ay:=⟨[],false,[],[],false⟩
@[simp] def Lj:Nat→List Nat
 |0=>[0]
 |1=>[2]
 |_=>[]
@[simp] def Pq:ay:=⟨[],false,[],[],false⟩
@[simp] def Lk:Nat→List Nat
 |0=>[0]
 |1=>[0,5,6]
 |2=>[0,5,6,16,17,18]
 |3=>[0,5,6,16,17,18,19]
 |4=>[0,5,6,8,16,17,18]
 |5=>[0,5,6,8,16,17,18,25]
 |6=>[0,5,6,16,17,18]
 |7=>[0,5,6,16,17,18]
 |8=>[0,5,6,9]
 |9=>[0,5,6,9,59]
 |10=>[2,3,4]
 |11=>[0,5,6,9,10]
 |12=>[0,5,9,10,11]
 |13=>[0,5,9,10,11,63]
 |14=>[0,5,9,10,11]
 |15=>[0,5,9,10,11,12]
 |16=>[0,5,9,10,11,12,75]
 |17=>[2,3,4]
 |18=>[0,5,9,10,11]
 |19=>[2,3,4]
 |_=>[]
@[simp] def Xr:Nat→Bool
 |9=>true
 |_=>false
@[simp] def Xs:Nat→List (List Nat)
 |6=>[[2,3,4],[2,3,4],[0,1,5],[0,1,5],[0,1,5],[2,3,4],[]]
 |_=>[]
@[simp] def Pr:ay:=⟨[],false,[350,500],[],false⟩
@[simp] def Ll:Nat→List Nat
 |0=>[0]
 |1=>[0,5,6,7]
 |2=>[0,5,6,7,8]
 |3=>[0,4,5,6,7]
 |4=>[0,5,6,7,13]
 |5=>[2]
 |6=>[0,5,6,7]
 |7=>[18]
 |8=>[2]
 |9=>[2]
 |_=>[]
@[simp] def Ps:ay:=⟨[],false,[],[],false⟩
@[simp] def Lm:Nat→List Nat
 |0=>[0,1]
 |1=>[0,8]
 |2=>[4]
 |3=>[]
 |4=>[4]
 |_=>[]
@[simp] def Xt:ay:=⟨[1],false,[],[],false⟩
@[simp] def Ln:Nat→List Nat
 |0=>[0,3]
 |1=>[]
 |_=>[]
@[simp] def Xu:ay:=⟨[],false,[250],[],false⟩
@[simp] def Lo:Nat→List Nat
 |0=>[0,2]
 |1=>[2]
 |_=>[]
@[simp] def Xv:Nat→List (List Nat)
 |1=>[[4,5,6,7],[4,5,6,7],[4,5,6,7],[4,5,6,7],[0,1,2,3],[0,1,2,3],[0,1,2,3],[0,1,2,3],[],[],[]]
 |_=>[]
@[simp] def Xw:ay:=⟨[1],false,[200],[],false⟩
@[simp] def Lp:Nat→List Nat
 |0=>[0,2]
 |1=>[0,2,3]
 |2=>[0,2,3,8]
 |3=>[2,3]
 |4=>[2]
 |_=>[]
@[simp] def Xx:ay:=⟨[1],false,[200,250],[],false⟩
@[simp] def Lq:Nat→List Nat
 |0=>[0,1,4]
 |1=>[0,1,4,5]
 |2=>[0,1,4,5]
 |3=>[0,1,4,5,26]
 |4=>[0,1,4]
 |5=>[0,1,4,31]
 |6=>[0,1,4]
 |7=>[0,1,4,6]
 |8=>[0,1,4,6,7]
 |9=>[0,1,4,6,7,37]
 |10=>[0,1,4,6,8,9]
 |11=>[0,1,4,6,8,56]
 |12=>[0,1,4,6,8]
 |13=>[0,1,4,6,7]
 |14=>[0,1,4,6,7]
 |15=>[0,1,6,7,63,64,65]
 |16=>[0,1,6,7,63,64,65,66]
 |17=>[0,1,6,7,11,63,64,65]
 |18=>[0,1,6,7,63,64,65]
 |19=>[0,1,6,7,63,64,65]
 |_=>[]
@[simp] def Xy:Nat→List (List Nat)
 |18=>[[1,2,3,4,5,6,7,8,9,10,11,12,13,14,15,16,17,18,19,20,21],[0,5,6,7,8,9,10,11,12,13,14,15,16,17,18,19,20],[0,5,6,7,8,9,10,11,12,13,14,15,16,17,18,19,20],[0,5,6,7,8,9,10,11,12,13,14,15,16,17,18,19,20],[0,5,6,7,8,9,10,11,12,13,14,15,16,17,18,19,20],[0,1,2,3,4,7,8,9,10,11,12,13,14,15,16,17,18],[0,1,2,3,4,7,8,9,10,11,12,13,14,15,16,17,18],[0,1,2,3,4,5,6,9,10,11,12,13,14,15,16,17,18],[0,1,2,3,4,5,6,9,10,11,12,13,14,15,16,17,18],[0,1,2,3,4,5,6,7,8,10,11,12,13,14,15,16,17,18],[0,1,2,3,4,5,6,7,8,9,12,13,14,15,16,17,18],[0,1,2,3,4,5,6,7,8,9,12,13,14,15,16,17,18],[0,1,2,3,4,5,6,7,8,9,10,11,14,15,16,17,18],[0,1,2,3,4,5,6,7,8,9,10,11,14,15,16,17,18],[0,1,2,3,4,5,6,7,8,9,10,11,12,13,16,17,18],[0,1,2,3,4,5,6,7,8,9,10,11,12,13,16,17,18],[0,1,2,3,4,5,6,7,8,9,10,11,12,13,14,15,17,18],[0,1,2,3,4,5,6,7,8,9,10,11,12,13,14,15,16],[0,1,2,3,4,5,6,7,8,9,10,11,12,13,14,15,16],[0,1,2,3,4],[0,1,2,3,4],[0],[],[],[]]
 |_=>[]
@[simp] def Xz:ay:=⟨[],false,[300,350,400,650],[],false⟩
@[simp] def Lr:Nat→List Nat
 |0=>[0,1]
 |1=>[4]
 |_=>[]
@[simp] def XA:ay:=⟨[1],false,[],[],false⟩
@[simp] def Ls:Nat→List Nat
 |0=>[0,1]
 |1=>[1,5]
 |2=>[4]
 |_=>[]
@[simp] def XB:ay:=⟨[1],false,[350],[],false⟩
@[simp] def Lt:Nat→List Nat
 |0=>[0,2]
 |1=>[0,2,3]
 |2=>[0,2,3]
 |3=>[0,2,3,4]
 |4=>[0,2,3,4]
 |5=>[2,3,4]
 |6=>[2,4]
 |7=>[2]
 |_=>[]
@[simp] def XF:ay:=⟨[1],false,[200,250,300],[],false⟩
@[simp] def Lu:Nat→List Nat
 |0=>[0,1]
 |1=>[0,1,7,8]
 |2=>[0,1,7,8,9]
 |3=>[0,1,5,7,8]
 |4=>[0,1,5,7,8,16]
 |5=>[4]
 |6=>[0,1,7,8]
 |7=>[4]
 |_=>[]
@[simp] def Pt:ay:=⟨[],false,[],[],false⟩
@[simp] def Lv:Nat→List Nat
 |0=>[1,2]
 |1=>[3]
 |_=>[]
@[simp] def Pu:ay:=⟨[],false,[200],[],false⟩
@[simp] def Lw:Nat→List Nat
 |0=>[0,1]
 |1=>[0,1,6]
 |2=>[6,21]
 |3=>[4,5]
 |4=>[4,5]
 |_=>[]
@[simp] def Pv:ay:=⟨[],false,[],[],false⟩
@[simp] def LA:Nat→List Nat
 |0=>[0,1]
 |1=>[0,1,6]
 |2=>[6,21]
 |3=>[4,5]
 |4=>[4,5]
 |_=>[]
@[simp] def Pw:ay:=⟨[],false,[],[],false⟩
@[simp] def LB:Nat→List Nat
 |0=>[0,1]
 |1=>[0,1,6,7]
 |2=>[0,1,7,17]
 |3=>[4,5]
 |4=>[4,5]
 |_=>[]
@[simp] def Px:ay:=⟨[],false,[],[],false⟩
@[simp] def LC:Nat→List Nat
 |0=>[0,1]
 |1=>[0,1,6]
 |2=>[4,5]
 |3=>[0,1,9]
 |4=>[4,5]
 |5=>[4,5]
 |_=>[]
@[simp] def Py:ay:=⟨[],false,[],[],false⟩
@[simp] def LD:Nat→List Nat
 |0=>[0,1]
 |1=>[0,1,6]
 |2=>[0,1,6,7]
 |3=>[4,5]
 |4=>[0,1,9]
 |5=>[4,5]
 |6=>[4,5]
 |_=>[]
@[simp] def Pz:ay:=⟨[],false,[],[],false⟩
@[simp] def LF:Nat→List Nat
 |0=>[0,1]
 |1=>[0,1,5]
 |2=>[0,1,5,6]
 |3=>[0,1,5,6,32]
 |4=>[4]
 |5=>[1,7]
 |6=>[1,7,54]
 |7=>[4]
 |8=>[4]
 |_=>[]
@[simp] def XG:Nat→Bool
 |3=>true
 |6=>true
 |_=>false
@[simp] def XH:ay:=⟨[],false,[],[],false⟩
@[simp] def LG:Nat→List Nat
 |0=>[0,1]
 |1=>[4]
 |_=>[]
@[simp] def XI:Nat→Bool
 |1=>true
 |_=>false
@[simp] def XJ:ay:=⟨[],false,[],[],false⟩
@[simp] def LH:Nat→List Nat
 |0=>[0,1]
 |1=>[4]
 |_=>[]
@[simp] def XK:Nat→Bool
 |1=>true
 |_=>false
@[simp] def XL:ay:=⟨[],false,[],[],false⟩
@[simp] def LJ:Nat→List Nat
 |0=>[0,1]
 |1=>[4]
 |_=>[]
@[simp] def XM:ay:=⟨[],false,[],[],false⟩
@[simp] def LK:Nat→List Nat
 |0=>[0,1]
 |1=>[0,1,5]
 |2=>[0,1,5,16]
 |3=>[4]
 |4=>[0,1,5,24]
 |5=>[4]
 |6=>[0,1,5,31]
 |7=>[4]
 |8=>[0,1,5,36]
 |9=>[4]
 |10=>[0,1,5,6]
 |11=>[0,1,5,6,7]
 |12=>[0,1,5,6,7,8]
 |13=>[0,1,5,6,7,8,9]
 |14=>[0,1,5,6,7,8,9,10]
 |15=>[0,1,5,6,7,8,9,10,59]
 |16=>[0,1,5,6,7,8,9,10,64]
 |17=>[0,1,5,6,7,8,9,10,11]
 |18=>[0,1,5,6,7,8,9,10,11,73]
 |19=>[4]
 |20=>[0,1,5,6,7,8,9,10]
 |21=>[0,1,5,6,7,8,9,10,93]
 |22=>[4]
 |23=>[0,1,5,6,7,8,9,10]
 |24=>[0,1,5,6,7,8,9,10]
 |25=>[0,1,5,6,7,8,9,10,107]
 |26=>[8,12]
 |27=>[8,12,114]
 |28=>[4]
 |29=>[4]
 |30=>[0,1,5,6,7,8,9,10,132]
 |31=>[8,13]
 |32=>[8,13,139]
 |33=>[4]
 |34=>[4]
 |35=>[4]
 |_=>[]
@[simp] def XN:Nat→Bool
 |21=>true
 |25=>true
 |_=>false
@[simp] def XO:ay:=⟨[],false,[],[],false⟩
@[simp] def LL:Nat→List Nat
 |0=>[0,1]
 |1=>[4]
 |_=>[]
@[simp] def PA:ay:=⟨[],false,[],[],false⟩
@[simp] def LM:Nat→List Nat
 |0=>[0,1]
 |1=>[3]
 |_=>[]
@[simp] def XP:Nat→List (List Nat)
 |1=>[[2],[2],[0,1],[],[]]
 |_=>[]
@[simp] def PB:ay:=⟨[],false,[],[],false⟩
@[simp] def LN:Nat→List Nat
 |0=>[0]
 |1=>[0,3]
 |2=>[2]
 |3=>[0,9]
 |4=>[2]
 |5=>[2]
 |_=>[]
@[simp] def PC:ay:=⟨[],false,[],[],false⟩
@[simp] def LO:Nat→List Nat
 |0=>[0,2]
 |1=>[0,2,3]
 |2=>[0,2,3,4,5]
 |3=>[0,2,3,4,15]
 |4=>[2,3]
 |5=>[2]
 |6=>[0,2,3,20]
 |7=>[2]
 |8=>[2,3,6]
 |9=>[2,3,6]
 |10=>[2,3,6,32]
 |11=>[2,3]
 |12=>[2]
 |_=>[]
@[simp] def XQ:ay:=⟨[1],false,[200,250,400],[],false⟩
@[simp] def LP:Nat→List Nat
 |0=>[0]
 |1=>[0,4]
 |2=>[2,3]
 |3=>[0,7]
 |4=>[2,3]
 |5=>[2,3]
 |_=>[]
@[simp] def XR:ay:=⟨[1],false,[],[],false⟩
@[simp] def LQ:Nat→List Nat
 |0=>[0,1]
 |1=>[0,1,7,8]
 |2=>[0,1,7,8,9]
 |3=>[0,1,5,7,8]
 |4=>[0,1,5,7,8,16]
 |5=>[4]
 |6=>[0,1,7,8]
 |7=>[4]
 |_=>[]
@[simp] def XS:ay:=⟨[1],false,[],[],false⟩
@[simp] def LR:Nat→List Nat
 |0=>[0]
 |1=>[0,13]
 |2=>[]
 |_=>[]
@[simp] def XT:ay:=⟨[1],false,[],[],false⟩
@[simp] def LS:Nat→List Nat
 |0=>[0,2]
 |1=>[0,2,7]
 |2=>[2]
 |3=>[0,2,12]
 |4=>[2]
 |5=>[0,2,17]
 |6=>[2]
 |7=>[0,2,22]
 |8=>[0,2,3]
 |9=>[0,2,3]
 |10=>[0,2,3]
 |11=>[2,3]
 |12=>[2]
 |13=>[0,2,38]
 |14=>[0,2,4]
 |15=>[0,2,4]
 |16=>[0,2,4]
 |17=>[2,4]
 |18=>[2]
 |19=>[0,2,54]
 |20=>[2]
 |21=>[0,2,58]
 |22=>[2]
 |23=>[0,2,5]
 |24=>[0,2,5,65]
 |25=>[2]
 |26=>[0,2,5,6]
 |27=>[0,2,5,6,76]
 |28=>[0,2,6]
 |29=>[0,2,6]
 |30=>[2]
 |_=>[]
@[simp] def XU:Nat→List (List Nat)
 |28=>[[2,3,4,5,6],[2,3,4,5,6],[0,1,5,6],[0,1,5,6],[0,1,5,6],[0,1,2,3,4],[0,1,2,3,4],[],[]]
 |30=>[[1,2],[0],[0],[],[]]
 |_=>[]
@[simp] def XV:ay:=⟨[1],false,[200,250,300,350,400],[],false⟩
@[simp] def LU:Nat→List Nat
 |0=>[]
 |_=>[]
@[simp] def XW:ay:=⟨[1],false,[],[],false⟩
@[simp] def LV:Nat→List Nat
 |0=>[0,1]
 |1=>[0,1,6]
 |2=>[0,1,6,7]
 |3=>[0,1,6,7,8]
 |4=>[0,1,6,7,8,9]
 |5=>[0,1,6,7,8,9,10]
 |6=>[0,1,6,7,9,11]
 |7=>[0,1,6,7,9,11,12]
 |8=>[0,1,6,7,9,12,13]
 |9=>[0,1,7,9,12,13]
 |10=>[0,1,4]
 |11=>[4,5]
 |_=>[]
@[simp] def PD:ay:=⟨[],false,[],[],false⟩
@[simp] def LW:Nat→List Nat
 |0=>[0]
 |1=>[0,4]
 |2=>[2]
 |3=>[2]
 |_=>[]
@[simp] def PE:ay:=⟨[],false,[],[],false⟩
@[simp] def LX:Nat→List Nat
 |0=>[0,1]
 |1=>[0,1,6]
 |2=>[4,5]
 |3=>[0,15]
 |4=>[4,5]
 |5=>[4,5]
 |_=>[]
@[simp] def PF:ay:=⟨[],false,[],[],false⟩
@[simp] def LY:Nat→List Nat
 |0=>[0,1]
 |1=>[0,1,17]
 |2=>[0,1,19,20]
 |3=>[0,1,19,20,21]
 |4=>[0,1,5,19,20]
 |5=>[0,1,6,19,20]
 |6=>[0,1,6,19,20,31]
 |7=>[4]
 |8=>[0,1,6,19,20,37]
 |9=>[4]
 |10=>[0,1,19,20]
 |11=>[4]
 |12=>[0,1,7]
 |13=>[0,1,7,8]
 |14=>[0,1,7,8,62]
 |15=>[0,1,7,8,9]
 |16=>[0,1,7,8,9,10]
 |17=>[0,1,7,8,9,10,85]
 |18=>[4]
 |19=>[0,1,7,8,9,110]
 |20=>[0,1,7,8]
 |21=>[0,1,7,8]
 |22=>[4]
 |_=>[]
@[simp] def XX:Nat→List (List Nat)
 |9=>[[],[],[],[],[],[],[7,8,9,10,12,13,14,15],[6,12,13,14,15],[6,12,13,14,15],[6,12,13,14,15],[6,12,13,14,15],[12,13,14,15],[6,7,8,9,10,11],[6,7,8,9,10,11],[6,7,8,9,10,11],[6,7,8,9,10,11],[],[],[],[]]
 |18=>[[],[],[],[],[],[],[7,8,9,10,12,13,14,15],[6,12,13,14,15],[6,12,13,14,15],[6,12,13,14,15],[6,12,13,14,15],[12,13,14,15],[6,7,8,9,10,11],[6,7,8,9,10,11],[6,7,8,9,10,11],[6,7,8,9,10,11],[],[],[],[]]
 |_=>[]
@[simp] def XY:ay:=⟨[],false,[],[],false⟩
@[simp] def LZ:Nat→List Nat
 |0=>[0,1]
 |1=>[0,1,13]
 |2=>[0,1,15,16]
 |3=>[0,1,15,16,17]
 |4=>[0,1,5,15,16]
 |5=>[0,1,6,15,16]
 |6=>[0,1,6,15,16,27]
 |7=>[4]
 |8=>[0,1,6,15,16,33]
 |9=>[4]
 |10=>[0,1,15,16]
 |11=>[4]
 |12=>[0,1,7]
 |13=>[0,1,7,8]
 |14=>[0,1,7,8,58]
 |15=>[0,1,7,8,9]
 |16=>[0,1,7,8,9,10]
 |17=>[0,1,7,8,9,10,78]
 |18=>[4]
 |19=>[0,1,7,8,9,95]
 |20=>[0,1,7,8]
 |21=>[0,1,7,8]
 |22=>[4]
 |_=>[]
@[simp] def XZ:Nat→List (List Nat)
 |9=>[[],[],[],[],[],[],[7,8,9,10,12,13,14,15],[6,12,13,14,15],[6,12,13,14,15],[6,12,13,14,15],[6,12,13,14,15],[12,13,14,15],[6,7,8,9,10,11],[6,7,8,9,10,11],[6,7,8,9,10,11],[6,7,8,9,10,11],[],[],[],[]]
 |_=>[]
@[simp] def X0:ay:=⟨[],false,[600],[],false⟩
@[simp] def L3:Nat→List Nat
 |0=>[0]
 |1=>[2]
 |_=>[]
@[simp] def X1:ay:=⟨[],false,[],[],false⟩
@[simp] def L4:Nat→List Nat
 |0=>[0,1]
 |1=>[0,1,5,6]
 |2=>[0,1,5,6,7]
 |3=>[0,1,5,6,7,8]
 |4=>[0,1,5,6,7,8,9]
 |5=>[0,1,5,6,7,8,9,20]
 |6=>[0,1,5,6,7,8,9]
 |7=>[0,1,5,6,7,8,9]
 |8=>[0,1,5,6,7,8,39]
 |9=>[4]
 |10=>[0,1,5,6,7,8,10]
 |11=>[0,1,5,6,7,8,10,44]
 |12=>[0,1,5,6,7,8,10]
 |13=>[0,1,5,6,7,8,10]
 |14=>[0,1,5,6,7,8,10]
 |15=>[0,1,5,6,7,8,10]
 |16=>[0,1,5,6,7,8,10,77]
 |17=>[4]
 |18=>[4]
 |_=>[]
@[simp] def X7:Nat→Bool
 |8=>true
 |16=>true
 |_=>false
@[simp] def X8:ay:=⟨[],false,[],[],false⟩
@[simp] def L5:Nat→List Nat
 |0=>[0,1]
 |1=>[0,1,7,8]
 |2=>[0,1,7,8,9]
 |3=>[0,1,5,7,8]
 |4=>[0,1,5,7,8,16]
 |5=>[4]
 |6=>[0,1,7,8]
 |7=>[4]
 |_=>[]
@[simp] def PG:ay:=⟨[],false,[],[],false⟩
@[simp] def L6:Nat→List Nat
 |0=>[0]
 |1=>[0,4]
 |2=>[2,3]
 |3=>[7]
 |4=>[2,3]
 |5=>[2,3]
 |_=>[]
@[simp] def X9:ay:=⟨[1],false,[],[],false⟩
@[simp] def L7:Nat→List Nat
 |0=>[0,3,4]
 |1=>[0,3,4]
 |2=>[0,3,4]
 |3=>[0,3,4]
 |4=>[0,3,4,5]
 |5=>[0,3,4,5,27]
 |6=>[0,3,4,5]
 |7=>[0,3,4]
 |8=>[0,3,4]
 |9=>[0,3,4]
 |10=>[0,3,4,6,7]
 |11=>[0,3,4,6,44]
 |12=>[3,4,6]
 |13=>[3,4]
 |14=>[4]
 |_=>[]
@[simp] def Ya:Nat→List (List Nat)
 |7=>[[2,3],[2,3],[0,1],[0,1],[],[]]
 |_=>[]
@[simp] def Yb:ay:=⟨[1],false,[250,300,350],[],false⟩
@[simp] def L8:Nat→List Nat
 |0=>[1]
 |1=>[1,3]
 |2=>[3,4]
 |3=>[3,4,10]
 |4=>[2]
 |5=>[2]
 |_=>[]
@[simp] def Yc:ay:=⟨[],false,[150],[],false⟩
@[simp] def L9:Nat→List Nat
 |0=>[0]
 |1=>[0,4]
 |2=>[2]
 |3=>[2]
 |_=>[]
@[simp] def Yd:ay:=⟨[1],false,[],[],false⟩
@[simp] def Ma:Nat→List Nat
 |0=>[0,2]
 |1=>[0,2,3]
 |2=>[0,2,3]
 |3=>[0,2,3]
 |4=>[0,2,3]
 |5=>[0,2,3,24]
 |6=>[0,2,3,26]
 |7=>[0,2,3]
 |8=>[2,3]
 |9=>[2]
 |_=>[]
@[simp] def Ye:Nat→List (List Nat)
 |2=>[[2,3,4],[2,3,4],[0,1],[0,1],[0,1],[],[],[]]
 |4=>[[2,3,4,5],[2,3,4,5],[0,1,3],[0,1,2],[0,1],[0,1],[],[],[]]
 |7=>[[2,3,4,5],[2,3,4,5],[0,1,3],[0,1,2],[0,1],[0,1],[],[],[]]
 |_=>[]
@[simp] def Yf:Nat→List Gh
 |1=>[.adopt 250 14 251 6,.adopt 250 17 252 1]
 |_=>[]
@[simp] def Yg:ay:=⟨[1],false,[200,250,251,252],[],false⟩
@[simp] def Mb:Nat→List Nat
 |0=>[0,2]
 |1=>[0,2,3]
 |2=>[0,2,3]
 |3=>[0,2,3,11]
 |4=>[0,2,3]
 |5=>[0,2,3,4]
 |6=>[0,2,3,4,31]
 |7=>[0,2,3,4]
 |8=>[0,2,3]
 |9=>[0,2,3,44]
 |10=>[0,2,3]
 |11=>[2,3]
 |12=>[2]
 |_=>[]
@[simp] def Yh:Nat→Bool
 |6=>true
 |_=>false
@[simp] def Yi:Nat→List (List Nat)
 |4=>[[2,3,4],[2,3,4],[0,1],[0,1],[0,1],[],[],[]]
 |10=>[[2,3,4,5],[2,3,4,5],[0,1,3],[0,1,2],[0,1],[0,1],[],[],[]]
 |_=>[]
@[simp] def Yj:Nat→List Gh
 |1=>[.adopt 250 15 251 1,.adopt 250 17 252 1]
 |1000002=>[.freeze 300]
 |_=>[]
@[simp] def Yk:ay:=⟨[1],false,[200,250,251,252,300],[],false⟩
@[simp] def Md:Nat→List Nat
 |0=>[0,2]
 |1=>[0,2,3]
 |2=>[0,2,3]
 |3=>[0,2,3,4]
 |4=>[0,2,3,4]
 |5=>[0,2,3]
 |6=>[0,2,3,5]
 |7=>[0,2,3,5,26]
 |8=>[0,2,3,5]
 |9=>[0,2,3]
 |10=>[0,2,3]
 |11=>[0,2,3]
 |12=>[2,3]
 |13=>[2]
 |_=>[]
@[simp] def Yl:Nat→List (List Nat)
 |5=>[[1,2],[0],[0],[],[],[]]
 |_=>[]
@[simp] def Ym:ay:=⟨[1],false,[200,250,300,350,1050],[],false⟩
@[simp] def Me:Nat→List Nat
 |0=>[0,2]
 |1=>[2]
 |_=>[]
@[simp] def Yn:ay:=⟨[1],false,[200],[],false⟩
@[simp] def Mf:Nat→List Nat
 |0=>[0,1,4]
 |1=>[0,4,5]
 |2=>[0,4,5,9]
 |3=>[4]
 |4=>[0,4,5]
 |5=>[0,4,5]
 |6=>[0,4,5]
 |7=>[0,4,5,30]
 |8=>[4,5]
 |9=>[4]
 |_=>[]
@[simp] def Yo:Nat→List (List Nat)
 |4=>[[2,3,4,5],[2,3,4,5],[0,1],[0,1],[0,1],[0,1],[],[],[]]
 |6=>[[2,3,4],[2,3,4],[0,1],[0,1],[0,1],[],[],[]]
 |_=>[]
@[simp] def Yp:Nat→List Gh
 |1=>[.adopt 350 14 351 6,.adopt 350 16 352 1]
 |_=>[]
@[simp] def Yq:ay:=⟨[1],false,[300,350,351,352],[],false⟩
@[simp] def Mg:Nat→List Nat
 |0=>[0,2]
 |1=>[0,2]
 |2=>[0,2]
 |3=>[0,2,3]
 |4=>[0,2,3]
 |5=>[2,3]
 |6=>[2]
 |_=>[]
@[simp] def Yr:ay:=⟨[1],false,[200,250],[],false⟩
@[simp] def Mh:Nat→List Nat
 |0=>[0]
 |1=>[0,4]
 |2=>[0,4,5]
 |3=>[0,4,5,12]
 |4=>[0,4,5]
 |5=>[0,4,5]
 |6=>[0,4,6,7]
 |7=>[4,6,7,8]
 |8=>[4,6,7,8,25]
 |9=>[4,6,7,8]
 |10=>[4,6,7,8,30]
 |11=>[4,6,7,8]
 |12=>[4,6,7,8]
 |13=>[2,3]
 |_=>[]
@[simp] def Ys:ay:=⟨[],false,[],[],false⟩
@[simp] def Mi:Nat→List Nat
 |0=>[1,2]
 |1=>[3]
 |_=>[]
@[simp] def Yt:ay:=⟨[],false,[200],[],false⟩
@[simp] def Mj:Nat→List Nat
 |0=>[0]
 |1=>[2]
 |_=>[]
@[simp] def Yu:Nat→Bool
 |1=>true
 |_=>false
@[simp] def Yv:ay:=⟨[1],false,[],[],false⟩
@[simp] def Ml:Nat→List Nat
 |0=>[0]
 |1=>[0,3]
 |2=>[0,3,4]
 |3=>[0,3,4,5]
 |4=>[0,3,4,5,10]
 |5=>[0,3,4,5]
 |6=>[0,3]
 |7=>[0,3,20]
 |8=>[3]
 |9=>[2]
 |_=>[]
@[simp] def Yw:ay:=⟨[1],false,[250],[],false⟩
@[simp] def Mm:Nat→List Nat
 |0=>[0,1,4]
 |1=>[0,1,4,5]
 |2=>[0,1,4,5,12]
 |3=>[4]
 |4=>[0,1,4,5,6]
 |5=>[0,1,4,5,6,25]
 |6=>[0,1,4,5,6,7]
 |7=>[0,1,4,5,6]
 |8=>[0,1,4,5,6,41]
 |9=>[4]
 |_=>[]
@[simp] def Yx:Nat→List (List Nat)
 |7=>[[3,4,5,6,9,10],[3,4,5,6,9,10],[3,4,5,6,9,10],[0,1,2,4,5,6,7,9,10],[0,1,2,3,5,6,9,10],[0,1,2,3,4,9,10],[0,1,2,3,4,9,10],[3,9,10],[9,10],[0,1,2,3,4,5,6,7,8],[0,1,2,3,4,5,6,7,8],[],[]]
 |_=>[]
@[simp] def Yy:ay:=⟨[1],false,[300,400,450],[],false⟩
@[simp] def Mn:Nat→List Nat
 |0=>[]
 |1=>[0]
 |_=>[]
@[simp] def Yz:ay:=⟨[],false,[],[],false⟩
@[simp] def Mo:Nat→List Nat
 |0=>[0,2]
 |1=>[0,2,3]
 |2=>[0,2,3]
 |3=>[2]
 |4=>[0,2,3,10]
 |5=>[0,2,3,4]
 |6=>[0,2,3,13]
 |7=>[0,2,3,4]
 |8=>[0,2,3,4]
 |9=>[0,2,3,4]
 |10=>[0,2,5]
 |11=>[2,5]
 |12=>[2]
 |_=>[]
@[simp] def YA:Nat→List (List Nat)
 |10=>[[1,2,3,4,5,7],[0,4,5,7],[0,4,5,7],[0,4,5,7],[0,1,2,3,7],[0,1,2,3,7],[7],[0,1,2,3,4,5,6],[]]
 |_=>[]
@[simp] def YB:ay:=⟨[1],false,[200,250,350],[],false⟩
@[simp] def Mp:Nat→List Nat
 |0=>[0]
 |1=>[0,3]
 |2=>[2]
 |_=>[]
@[simp] def YC:ay:=⟨[],false,[],[],false⟩
@[simp] def Mq:Nat→List Nat
 |0=>[0,2]
 |1=>[0,2,3]
 |2=>[0,2,3,7]
 |3=>[2]
 |4=>[0,2,3,17]
 |5=>[2]
 |6=>[0,2,3,23]
 |7=>[2]
 |8=>[0,2,3,29]
 |9=>[0,2]
 |10=>[0,2]
 |11=>[0,2,4]
 |12=>[0,2,4]
 |13=>[2,4]
 |14=>[2]
 |15=>[0,2,3]
 |16=>[0,2,3,45]
 |17=>[2]
 |18=>[0,2,3,56]
 |19=>[2]
 |20=>[2]
 |_=>[]
@[simp] def YD:Nat→List (List Nat)
 |3=>[[3,4],[3,4],[3,4],[0,1,2],[0,1,2],[],[]]
 |17=>[[2,3,4,5,6],[2,3,4,5,6],[0,1,5,6],[0,1,5,6],[0,1,5,6],[0,1,2,3,4],[0,1,2,3,4],[],[]]
 |19=>[[2,3,4,5,6],[2,3,4,5,6],[0,1,5,6],[0,1,5,6],[0,1,5,6],[0,1,2,3,4],[0,1,2,3,4],[],[]]
 |_=>[]
@[simp] def YE:ay:=⟨[1],false,[200,250,300],[],false⟩
def od5:Nat→List (List Nat)
 |9=>[[],[],[],[4,5,7,8,9],[3,5,7,8,9],[3,4,7,8,9],[7,8,9],[3,4,5,6,8,9],[3,4,5,6,7,9],[3,4,5,6,7,8],[],[],[],[]]
 |_=>[]
def od6:Nat→List (List Nat)
 |6=>[[],[],[],[4,5,7,8,9],[3,5,7,8,9],[3,4,7,8,9],[7,8,9],[3,4,5,6,8,9],[3,4,5,6,7,9],[3,4,5,6,7,8],[],[],[],[]]
 |_=>[]
def anH:Nat→List (List Nat)
 |5=>[[1,2,4,5,6,7,8,10,11],[0,2,4,5,6,7,8,10,11],[0,1,4,5,6,7,8,10,11],[4,5,6,7,8,10,11],[0,1,2,3,5,6,7,8,10,11],[0,1,2,3,4,6,7,8,10,11],[0,1,2,3,4,5,7,10,11],[0,1,2,3,4,5,6,10,11],[0,1,2,3,4,5,10,11],[10,11],[0,1,2,3,4,5,6,7,8,9,11],[0,1,2,3,4,5,6,7,8,9,10],[],[]]
 |_=>[]
def anI:Nat→List (List Nat)
 |5=>[[1,2,3],[0,2,3,4],[0,1,3],[0,1,2],[1],[]]
 |6=>[[2,4,5,6,7],[2,4,5,6,7],[0,1,4,5,6,7],[4,5,6,7],[0,1,2,3,6,8,9],[0,1,2,3,6,8,9],[0,1,2,3,4,5,8,9],[0,1,2,3,8,9],[4,5,6,7],[4,5,6,7],[],[]]
 |7=>[[1,2,4,5,6,8,9],[0,2,4,5,6,8,9],[0,1,4,5,6,8,9],[4,5,6,8,9],[0,1,2,3,5,6,8,9],[0,1,2,3,4,6,8,9],[0,1,2,3,4,5,8,9],[8,9],[0,1,2,3,4,5,6,7,9],[0,1,2,3,4,5,6,7,8],[],[]]
 |10=>[[1,2,3,4,5,6],[0,2,3,4,5],[0,1,4,5],[0,1,4,5],[0,1,2,3],[0,1,2,3],[0],[],[]]
 |_=>[]
def anJ:Nat→List (List Nat)
 |5=>[[1,2,4,6,7],[0,2,4,6,7],[0,1,4,6,7],[4,6,7],[0,1,2,3,6,7],[6,7],[0,1,2,3,4,5,7],[0,1,2,3,4,5,6],[],[],[]]
 |_=>[]
def anK:Nat→List (List Nat)
 |9=>[[1,2,4,5,6],[0,2,4,5,6],[0,1,4,5,6],[4,5,6],[0,1,2,3,5,6],[0,1,2,3,4,6],[0,1,2,3,4,5],[],[],[]]
 |_=>[]
def anL:Nat→List (List Nat)
 |1=>[[1,2,3,4],[0],[0],[0],[0],[],[],[]]
 |_=>[]
def anM:Nat→List (List Nat)
 |9=>[[2,3,4],[2,3,4],[0,1],[0,1],[0,1],[],[],[]]
 |11=>[[1,2,3,4],[0,5],[0,5],[0,5],[0,5],[1,2,3,4],[]]
 |_=>[]
def anN:Nat→List (List Nat)
 |6=>[[1,4,5,6,7],[0,4,5,6,7],[4,5,6,7],[4,5,6,7],[0,1,2,3,5],[0,1,2,3,4],[0,1,2,3],[0,1,2,3],[]]
 |_=>[]
def anO:Nat→List (List Nat)
 |3=>[[1,2,3,4,5,6,7,8,9],[0,3,4,5,6,7,9],[0,3,4,5,6,7,9],[0,1,2,5,6,9],[0,1,2,5,6,9],[0,1,2,3,4,9],[0,1,2,3,4,9],[0,1,2,9],[0,9],[0,1,2,3,4,5,6,7,8],[],[],[]]
 |5=>[[2,3,4,5,8],[2,3,4,5,8],[0,1,8],[0,1,8],[0,1,8],[0,1,8],[8],[8],[0,1,2,3,4,5,6,7],[]]
 |10=>[[4,5,8,9,10,11,12,13,14,15],[4,5,8,9,10,11,12,13,14,15],[4,5,8,9,10,11,12,13,14,15],[4,5,8,9,10,11,12,13,14,15],[0,1,2,3,8,9,10,11,12,13,14,15],[0,1,2,3,8,9,10,11,12,13,14,15],[8,9,10,11,12,13,14,15],[8,9,10,11,12,13,14,15],[0,1,2,3,4,5,6,7,12,13,14,15],[0,1,2,3,4,5,6,7,12,13,14,15],[0,1,2,3,4,5,6,7,12,13,14,15],[0,1,2,3,4,5,6,7,12,13,14,15],[0,1,2,3,4,5,6,7,8,9,10,11],[0,1,2,3,4,5,6,7,8,9,10,11],[0,1,2,3,4,5,6,7,8,9,10,11],[0,1,2,3,4,5,6,7,8,9,10,11],[],[]]
 |_=>[]
def anP:Nat→List (List Nat)
 |1=>[[1,2,3,4,5,6],[0,3,4,6],[0,3,4,6],[0,1,2,4,6],[0,1,2,3,6],[0,6],[0,1,2,3,4,5],[],[],[]]
 |5=>[[1,2,3,4,5,6,7,8,9,10,11,12,13],[0,5,6,7,8,9,10,11,12],[0,5,6,7,8,9,10,11,12],[0,5,6,7,8,9,10,11,12],[0,5,6,7,8,9,10,11,12],[0,1,2,3,4,7],[0,1,2,3,4,7],[0,1,2,3,4,5,6],[0,1,2,3,4],[0,1,2,3,4],[0,1,2,3,4],[0,1,2,3,4],[0,1,2,3,4],[0],[],[],[]]
 |7=>[[4,5,6,7,8,9,10,11],[4,5,6,7,8,9,10,11],[4,5,6,7,8,9,10,11],[4,5,6,7,8,9,10,11],[0,1,2,3,8,9,10,11],[0,1,2,3,8,9,10,11],[0,1,2,3,8,9,10,11],[0,1,2,3,8,9,10,11],[0,1,2,3,4,5,6,7],[0,1,2,3,4,5,6,7],[0,1,2,3,4,5,6,7],[0,1,2,3,4,5,6,7],[],[]]
 |_=>[]
def anQ:Nat→List (List Nat)
 |2=>[[1,2,3,4,5,8],[0,3,4,5,8],[0,3,4,5,8],[0,1,2,5,8],[0,1,2,5,8],[0,1,2,3,4,8],[8],[8],[0,1,2,3,4,5,6,7],[]]
 |8=>[[1,2,3,4,5,6,7,8,9],[0,5,6,7,8],[0,5,6,7,8],[0,5,6,7,8],[0,5,6,7,8],[0,1,2,3,4],[0,1,2,3,4],[0,1,2,3,4],[0,1,2,3,4],[0],[],[],[]]
 |12=>[[4,5,6,7],[4,5,6,7],[4,5,6,7],[4,5,6,7],[0,1,2,3],[0,1,2,3],[0,1,2,3],[0,1,2,3],[],[]]
 |_=>[]
def anR:Nat→List (List Nat)
 |3=>[[1,2,3],[0,2,3,4],[0,1,3,4,5],[0,1,2,4,5,6],[1,2,3],[2,3],[3],[]]
 |10=>[[1,2],[0,2,3],[0,1,3,4,5],[1,2],[2],[2],[]]
 |_=>[]
def anS:Nat→List (List Nat)
 |5=>[[4,5],[4,5],[4,5],[4,5],[0,1,2,3],[0,1,2,3],[],[]]
 |_=>[]
def anT:Nat→List (List Nat)
 |4=>[[],[],[],[4,7,8,9,10,11,12,13,14,15,16,17,18,19],[3,7,8,9,10,11,12,13,14,15,16,17,18,19],[7,8,9,10,11,12,13,14,15,16,17,18,19],[7,8,9,10,11,12,13,14,15,16,17,18,19],[3,4,5,6,8,13,14,15,16,17,18],[3,4,5,6,7,13,14,15,16,17,18],[3,4,5,6,13,14,15,16,17,18],[3,4,5,6,13,14,15,16,17,18],[3,4,5,6,13,14,15,16,17,18],[3,4,5,6,13,14,15,16,17,18],[3,4,5,6,7,8,9,10,11,12,14,15],[3,4,5,6,7,8,9,10,11,12,13],[3,4,5,6,7,8,9,10,11,12,13],[3,4,5,6,7,8,9,10,11,12],[3,4,5,6,7,8,9,10,11,12],[3,4,5,6,7,8,9,10,11,12],[3,4,5,6],[],[],[]]
 |_=>[]
def anU:Nat→List (List Nat)
 |6=>[[1,4,5,6,7],[0,4,5,6,7],[4,5,6,7],[4,5,6,7],[0,1,2,3,5],[0,1,2,3,4],[0,1,2,3],[0,1,2,3],[]]
 |_=>[]
def anV:Nat→List (List Nat)
 |6=>[[1,2,3,4,5,6,7,8],[0,5,6],[0,5,6],[0,5,6],[0,5,6],[0,1,2,3,4],[0,1,2,3,4],[0],[0],[]]
 |8=>[[1,2,3,4,5,6,7,8,9,10],[0,5,6],[0,5,6],[0,5,6],[0,5,6],[0,1,2,3,4],[0,1,2,3,4],[0],[0],[0],[0],[]]
 |11=>[[1,2,3],[0,2,3],[0,1],[0,1],[],[],[7],[6,8],[7],[]]
 |18=>[[4,5,6],[4,5,6],[4,5,6],[4,5,6],[0,1,2,3,6],[0,1,2,3,6],[0,1,2,3,4,5],[],[]]
 |21=>[[1,2,3],[0,2,3],[0,1],[0,1],[],[],[7],[6,8],[7],[]]
 |_=>[]
def anW:Nat→List (List Nat)
 |15=>[[4,5,7,8,9,10,11,12,13,14,15,16,17,18,19,20],[4,5,7,8,9,10,11,12,13,14,15,16,17,18,19,20],[4,5,7,8,9,10,11,12,13,14,15,16,17,18,19,20],[4,5,7,8,9,10,11,12,13,14,15,16,17,18,19,20],[0,1,2,3,7,8,9,10,11,12,13,14,15,16,17,18,19,20],[0,1,2,3,7,8,9,10,11,12,13,14,15,16,17,18,19,20],[7,8,9,10,11,12,13,14,15,16,17,18,19,20],[0,1,2,3,4,5,6,9,10,11,12,13,14,15,16,17,18,19],[0,1,2,3,4,5,6,9,10,11,12,13,14,15,16,17,18,19],[0,1,2,3,4,5,6,7,8,13,14,15,16,17,18],[0,1,2,3,4,5,6,7,8,13,14,15,16,17,18],[0,1,2,3,4,5,6,7,8,13,14,15,16,17,18],[0,1,2,3,4,5,6,7,8,13,14,15,16,17,18],[0,1,2,3,4,5,6,7,8,9,10,11,12,15,16,17,18],[0,1,2,3,4,5,6,7,8,9,10,11,12,15,16,17,18],[0,1,2,3,4,5,6,7,8,9,10,11,12,13,14,17],[0,1,2,3,4,5,6,7,8,9,10,11,12,13,14,17],[0,1,2,3,4,5,6,7,8,9,10,11,12,13,14,15,16],[0,1,2,3,4,5,6,7,8,9,10,11,12,13,14],[0,1,2,3,4,5,6,7,8],[0,1,2,3,4,5,6],[]]
 |19=>[[4,5],[4,5],[4,5],[4,5],[0,1,2,3],[0,1,2,3],[],[],[]]
 |_=>[]
def anX:Nat→List (List Nat)
 |5=>[[4,5,6,7,8,9],[4,5,6,7,8,9],[4,5,6,7,8,9],[4,5,6,7,8,9],[0,1,2,3,6,7,8,9],[0,1,2,3,6,7,8,9],[0,1,2,3,4,5],[0,1,2,3,4,5],[0,1,2,3,4,5],[0,1,2,3,4,5],[],[]]
 |_=>[]
def anY:Nat→List (List Nat)
 |5=>[[1,2,3,4,5,6,7,8],[0,3,4,5,6,7],[0,3,4,5,6,7],[0,1,2,4,5,6,7],[0,1,2,3,5],[0,1,2,3,4],[0,1,2,3],[0,1,2,3],[0],[],[],[]]
 |_=>[]
def anZ:Nat→List (List Nat)
 |12=>[[2,3,4,5,6,7,8,9,10,11],[2,3,4,5,6,7,8,9,10,11],[0,1,3,7],[0,1,2,7],[0,1,7],[0,1,7],[0,1,7],[0,1,2,3,4,5,6],[0,1],[0,1],[0,1],[0,1],[],[],[]]
 |17=>[[2,3,4,5,6,7,8,9,10,11],[2,3,4,5,6,7,8,9,10,11],[0,1,3,7],[0,1,2,7],[0,1,7],[0,1,7],[0,1,7],[0,1,2,3,4,5,6],[0,1],[0,1],[0,1],[0,1],[],[],[]]
 |_=>[]
def agM:Nat→List (List Nat)
 |5=>[[1],[0],[],[],[],[],[7,8,9,10,11],[6,8],[6,7],[6],[6],[6],[],[],[],[],[],[],[19,23,24,25,26,27,28,29,30,31],[18,23,24,25,26,27,28,29,30,31],[23,24,25,26,27,28,29,30,31],[23,24,25,26,27,28,29,30,31],[23,24,25,26,27,28,29,30,31],[18,19,20,21,22,24,25,26,27,28],[18,19,20,21,22,23,25],[18,19,20,21,22,23,24],[18,19,20,21,22,23],[18,19,20,21,22,23],[18,19,20,21,22,23],[18,19,20,21,22],[18,19,20,21,22],[18,19,20,21,22],[],[]]
 |_=>[]
def agN:Nat→List (List Nat)
 |0=>[[1,2,3,4,5],[0,5,6,7],[0,5,6,7],[0,5,6,7],[0,5,6,7],[0,1,2,3,4,6,7],[1,2,3,4,5],[1,2,3,4,5],[],[]]
 |_=>[]
def agO:Nat→List (List Nat)
 |2=>[[1,2,3,4],[0,5,6],[0,5,6],[0,5,6],[0,5,6],[1,2,3,4],[1,2,3,4],[],[],[]]
 |_=>[]
def agP:Nat→List (List Nat)
 |4=>[[3,4,5,6,7,8,9,10,11,12],[3,4,5,6,7,8,9,10,11,12],[3,4,5,6,7,8,9,10,11,12],[0,1,2,7,9,10,11,12],[0,1,2,7,9,10,11,12],[0,1,2,7,9,10,11,12],[0,1,2,7,9,10,11,12],[0,1,2,3,4,5,6,9,10,11,12],[0,1,2,9,10,11,12],[0,1,2,3,4,5,6,7,8],[0,1,2,3,4,5,6,7,8],[0,1,2,3,4,5,6,7,8],[0,1,2,3,4,5,6,7,8],[],[],[]]
 |_=>[]
def agQ:Nat→List (List Nat)
 |1=>[[4,5,8,9,10,11,12,13,14,15,16,17,18,19,20,21,22,23,24],[4,5,8,9,10,11,12,13,14,15,16,17,18,19,20,21,22,23,24],[4,5,8,9,10,11,12,13,14,15,16,17,18,19,20,21,22,23,24],[4,5,8,9,10,11,12,13,14,15,16,17,18,19,20,21,22,23,24],[0,1,2,3,8,9,10,11,12,13,14,15,16,17,18,19,20,21,22,23,24],[0,1,2,3,8,9,10,11,12,13,14,15,16,17,18,19,20,21,22,23,24],[8,9,10,11,12,13,14,15,16,17,18,19,20,21,22,23,24],[8,9,10,11,12,13,14,15,16,17,18,19,20,21,22,23,24],[0,1,2,3,4,5,6,7,12,13,16,17,18,19,20,21,22,23,24,25],[0,1,2,3,4,5,6,7,12,13,16,17,18,19,20,21,22,23,24,25],[0,1,2,3,4,5,6,7,12,13,16,17,18,19,20,21,22,23,24,25],[0,1,2,3,4,5,6,7,12,13,16,17,18,19,20,21,22,23,24,25],[0,1,2,3,4,5,6,7,8,9,10,11,16,17,18,19,20,21,22,23,24,25],[0,1,2,3,4,5,6,7,8,9,10,11,16,17,18,19,20,21,22,23,24,25],[0,1,2,3,4,5,6,7,16,17,18,19,20,21,22,23,24,25],[0,1,2,3,4,5,6,7,16,17,18,19,20,21,22,23,24,25],[0,1,2,3,4,5,6,7,8,9,10,11,12,13,14,15,20,21,22,25,26],[0,1,2,3,4,5,6,7,8,9,10,11,12,13,14,15,20,21,22,25,26],[0,1,2,3,4,5,6,7,8,9,10,11,12,13,14,15,20,21,22,25,26],[0,1,2,3,4,5,6,7,8,9,10,11,12,13,14,15,20,21,22,25,26],[0,1,2,3,4,5,6,7,8,9,10,11,12,13,14,15,16,17,18,19,25,26],[0,1,2,3,4,5,6,7,8,9,10,11,12,13,14,15,16,17,18,19,25,26],[0,1,2,3,4,5,6,7,8,9,10,11,12,13,14,15,16,17,18,19,25,26],[0,1,2,3,4,5,6,7,8,9,10,11,12,13,14,15,25,26],[0,1,2,3,4,5,6,7,8,9,10,11,12,13,14,15,25,26],[8,9,10,11,12,13,14,15,16,17,18,19,20,21,22,23,24],[16,17,18,19,20,21,22,23,24],[]]
 |_=>[]
def agR:Nat→List (List Nat)
 |64=>[[1,2,3,4,5,6,7],[0,3,4,5,6,7],[0,3,4,5,6,7],[0,1,2,5],[0,1,2,5],[0,1,2,3,4],[0,1,2],[0,1,2],[],[],[11],[10,12],[11],[]]
 |67=>[[2,3,4,5,6,7,8,9,10,11,12],[2,3,4,5,6,7,8,9,10,11,12],[0,1,3,4,5,6,7,8,9,10,11],[0,1,2,7,8,9,10],[0,1,2,7,8,9,10],[0,1,2,7,8,9,10],[0,1,2,7,8,9,10],[0,1,2,3,4,5,6,8,9,10],[0,1,2,3,4,5,6,7,9],[0,1,2,3,4,5,6,7,8],[0,1,2,3,4,5,6,7],[0,1,2],[0,1],[],[]]
 |71=>[[4,5,6,7,8,9,10],[4,5,6,7,8,9,10],[4,5,6,7,8,9,10],[4,5,6,7,8,9,10],[0,1,2,3,5,7,8,9,10],[0,1,2,3,4,7,8,9,10],[0,1,2,3,7,8,9,10],[0,1,2,3,4,5,6,8],[0,1,2,3,4,5,6,7],[0,1,2,3,4,5,6],[0,1,2,3,4,5,6],[],[]]
 |_=>[]
def agS:Nat→List (List Nat)
 |1=>[[4,5,11],[4,5,11],[4,5,11],[4,5,11],[0,1,2,3,11],[0,1,2,3,11],[11],[11],[9,10,11],[8,10,11,12],[8,9,11,12,13],[0,1,2,3,4,5,6,7,8,9,10],[9,10],[10],[]]
 |4=>[[4,5,6],[4,5,6],[4,5,6],[4,5,6],[0,1,2,3],[0,1,2,3],[0,1,2,3],[],[],[10,11],[9,11,12],[9,10,12,13],[10,11],[11]]
 |8=>[[1,2,3,4,5,6,7,8,9,10,11],[0,2,3,5,6,7,8,9,10],[0,1,5,6,7,8,9,10],[0,1,5,6,7,8,9,10],[0,5,6,7,8,9,10],[0,1,2,3,4,6,7,8,9],[0,1,2,3,4,5,8,9],[0,1,2,3,4,5,8,9],[0,1,2,3,4,5,6,7],[0,1,2,3,4,5,6,7],[0,1,2,3,4],[0],[],[],[]]
 |32=>[[1,2,3,4,5,6,7,8,9,10,11,12,13,14,15,16,17,18,19,20,21],[0,2,3,4,5,6,7,8,9,10,11,12,13,14,15,16,17,18,20],[0,1,4,7,10,11,12,13,14,15,16,17,18,20],[0,1,4,7,10,11,12,13,14,15,16,17,18,20],[0,1,2,3,7,10,11,12,13,14,15,16,17,18,20],[0,1,7,10,11,12,13,14,15,16,17,18,20],[0,1,7,10,11,12,13,14,15,16,17,18,20],[0,1,2,3,4,5,6,10,11,12,13,14,15,16,17,18,20],[0,1,10,11,12,13,14,15,16,17,18,20],[0,1,10,11,12,13,14,15,16,17,18,20],[0,1,2,3,4,5,6,7,8,9,12,15,16,20],[0,1,2,3,4,5,6,7,8,9,12,15,16,20],[0,1,2,3,4,5,6,7,8,9,10,11,15,16,20],[0,1,2,3,4,5,6,7,8,9,15,16,20],[0,1,2,3,4,5,6,7,8,9,15,16,20],[0,1,2,3,4,5,6,7,8,9,10,11,12,13,14,20],[0,1,2,3,4,5,6,7,8,9,10,11,12,13,14,20],[0,1,2,3,4,5,6,7,8,9,20],[0,1,2,3,4,5,6,7,8,9,20],[0,20],[0,1,2,3,4,5,6,7,8,9,10,11,12,13,14,15,16,17,18,19],[0],[],[]]
 |39=>[[1,2,3,4,6,7,8,9,10,12,13,14,15,16,18,19,20,21,22,23,24,25],[0,6,7,8,9,10,12,13,14,15,16,18,19,20,21,22,23,24,25],[0,6,7,8,9,10,12,13,14,15,16,18,19,20,21,22,23,24,25],[0,6,7,8,9,10,12,13,14,15,16,18,19,20,21,22,23,24,25],[0,6,7,8,9,10,12,13,14,15,16,18,19,20,21,22,23,24,25],[6,7,8,9,10,12,13,14,15,16,18,19,20,21,22,23,24,25],[0,1,2,3,4,5,7,8,9,10,12,13,14,15,16,18,19,20,21,22,23,24,25],[0,1,2,3,4,5,6,12,13,14,15,16,18,19,20,21,22,23,24,25],[0,1,2,3,4,5,6,12,13,14,15,16,18,19,20,21,22,23,24,25],[0,1,2,3,4,5,6,12,13,14,15,16,18,19,20,21,22,23,24,25],[0,1,2,3,4,5,6,12,13,14,15,16,18,19,20,21,22,23,24,25],[12,13,14,15,16,18,19,20,21,22,23,24,25],[0,1,2,3,4,5,6,7,8,9,10,11,13,14,15,16,18,19,20,21,22,23,24,25],[0,1,2,3,4,5,6,7,8,9,10,11,12,18,19,20,21,22,23,24,25],[0,1,2,3,4,5,6,7,8,9,10,11,12,18,19,20,21,22,23,24,25],[0,1,2,3,4,5,6,7,8,9,10,11,12,18,19,20,21,22,23,24,25],[0,1,2,3,4,5,6,7,8,9,10,11,12,18,19,20,21,22,23,24,25],[18,19,20,21,22,23,24,25],[0,1,2,3,4,5,6,7,8,9,10,11,12,13,14,15,16,17,21,22,23,24],[0,1,2,3,4,5,6,7,8,9,10,11,12,13,14,15,16,17,21,22,23,24],[0,1,2,3,4,5,6,7,8,9,10,11,12,13,14,15,16,17,21,22,23,24],[0,1,2,3,4,5,6,7,8,9,10,11,12,13,14,15,16,17,18,19,20,23,24],[0,1,2,3,4,5,6,7,8,9,10,11,12,13,14,15,16,17,18,19,20,23,24],[0,1,2,3,4,5,6,7,8,9,10,11,12,13,14,15,16,17,18,19,20,21,22],[0,1,2,3,4,5,6,7,8,9,10,11,12,13,14,15,16,17,18,19,20,21,22],[0,1,2,3,4,5,6,7,8,9,10,11,12,13,14,15,16,17],[],[],[]]
 |47=>[[2,3,4,6],[2,3,4,6],[0,1,3,4,6],[0,1,2,6],[0,1,2,6],[6],[0,1,2,3,4,5],[],[],[],[]]
 |53=>[[1,2,3,4,5,6,9,10],[0,3,4,5,9,10],[0,3,4,5,9,10],[0,1,2,4,5,9,10],[0,1,2,3,9,10],[0,1,2,3,9,10],[0,9,10],[9,10],[9,10],[0,1,2,3,4,5,6,7,8],[0,1,2,3,4,5,6,7,8],[],[]]
 |63=>[[4,5,6,7,8,9,10,16],[4,5,6,7,8,9,10,16],[4,5,6,7,8,9,10,16],[4,5,6,7,8,9,10,16],[0,1,2,3,6,7,8,9,10,16],[0,1,2,3,6,7,8,9,10,16],[0,1,2,3,4,5,8,16],[0,1,2,3,4,5,8,16],[0,1,2,3,4,5,6,7,16],[0,1,2,3,4,5,16],[0,1,2,3,4,5,16],[16],[16],[14,15,16],[13,15,16,17],[13,14,16,17,18],[0,1,2,3,4,5,6,7,8,9,10,11,12,13,14,15],[14,15],[15],[]]
 |_=>[]
def agT:Nat→List (List Nat)
 |6=>[[2,3,4,5,6,7,8],[2,3,4,5,6,7,8],[0,1,4],[0,1,4],[0,1,2,3],[0,1],[0,1],[0,1],[0,1],[],[],[]]
 |_=>[]
def agU:Nat→List (List Nat)
 |5=>[[1,2,3,4,5],[0,2,3,4,5,6,7],[0,1,4,5],[0,1,4,5],[0,1,2,3,6,7],[0,1,2,3,6,7],[1,4,5],[1,4,5],[],[]]
 |_=>[]
def agV:Nat→List (List Nat)
 |4=>[[4,7,8],[4,7,8],[4,7,8],[4,7,8],[0,1,2,3,7,8],[7,8],[7,8],[0,1,2,3,4,5,6],[0,1,2,3,4,5,6],[]]
 |7=>[[1,2,3,4,5,6,7],[0,5,6],[0,5,6],[0,5,6],[0,5,6],[0,1,2,3,4],[0,1,2,3,4],[0],[],[],[]]
 |_=>[]
def agW:Nat→List (List Nat)
 |3=>[[4,5,6,7,8,9,10,13],[4,5,6,7,8,9,10,13],[4,5,6,7,8,9,10,13],[4,5,6,7,8,9,10,13],[0,1,2,3,9,13],[0,1,2,3,9,13],[0,1,2,3,9,13],[0,1,2,3,9,13],[0,1,2,3,9,13],[0,1,2,3,4,5,6,7,8,13],[0,1,2,3,13],[13],[13],[0,1,2,3,4,5,6,7,8,9,10,11,12]]
 |9=>[[1,2,3,4,5,6,7,8,9,10,11,12],[0,5,6,7,8,9,10,11],[0,5,6,7,8,9,10,11],[0,5,6,7,8,9,10,11],[0,5,6,7,8,9,10,11],[0,1,2,3,4,10],[0,1,2,3,4,10],[0,1,2,3,4,10],[0,1,2,3,4,10],[0,1,2,3,4,10],[0,1,2,3,4,5,6,7,8,9],[0,1,2,3,4],[0],[],[],[]]
 |_=>[]
def agX:Nat→List (List Nat)
 |5=>[[1],[0,2,3],[1],[1],[],[]]
 |7=>[[1,2,3,4,5,6,7,8],[0,4,5,6],[0,4,5,6],[0,4,5,6],[0,1,2,3],[0,1,2,3],[0,1,2,3],[0],[0],[],[]]
 |10=>[[1],[0,2,3],[1],[1],[],[]]
 |13=>[[1,2,3,4,5,6,7,8],[0,4,5,6],[0,4,5,6],[0,4,5,6],[0,1,2,3],[0,1,2,3],[0,1,2,3],[0],[0],[],[]]
 |16=>[[1],[0,2,3],[1],[1],[],[]]
 |18=>[[1,2,3,4,5,6,7,8],[0,4,5,6],[0,4,5,6],[0,4,5,6],[0,1,2,3],[0,1,2,3],[0,1,2,3],[0],[0],[],[]]
 |19=>[[1,2,3],[0],[0],[0],[],[]]
 |21=>[[1,2,3,4,5],[0],[0],[0],[0],[0],[],[]]
 |_=>[]
def agY:Nat→List (List Nat)
 |6=>[[1,2,3,4,5,6,7,8],[0,4,5,6],[0,4,5,6],[0,4,5,6],[0,1,2,3],[0,1,2,3],[0,1,2,3],[0],[0],[],[]]
 |_=>[]
def agZ:Nat→List (List Nat)
 |5=>[[5,8,9,10,11,12,13,14,15],[5,8,9,10,11,12,13,14,15],[5,8,9,10,11,12,13,14,15],[5,8,9,10,11,12,13,14,15],[5,8,9,10,11,12,13,14,15],[0,1,2,3,4,8,9,10,11,12,13,14,15],[8,9,10,11,12,13,14,15],[8,9,10,11,12,13,14,15],[0,1,2,3,4,5,6,7,13,16],[0,1,2,3,4,5,6,7,13,16],[0,1,2,3,4,5,6,7,13,16],[0,1,2,3,4,5,6,7,13,16],[0,1,2,3,4,5,6,7,13,16],[0,1,2,3,4,5,6,7,8,9,10,11,12,16],[0,1,2,3,4,5,6,7,16],[0,1,2,3,4,5,6,7,16],[8,9,10,11,12,13,14,15],[]]
 |_=>[]
def ag0:Nat→List (List Nat)
 |4=>[[2,3,4],[2,3,4],[0,1,5],[0,1,5],[0,1,5],[2,3,4],[]]
 |_=>[]
def ag1:Nat→List (List Nat)
 |10=>[[4,5,6,7],[4,5,6,7],[4,5,6,7],[4,5,6,7],[0,1,2,3,5,6,7],[0,1,2,3,4],[0,1,2,3,4],[0,1,2,3,4],[],[]]
 |18=>[[4,7,8,9],[4,7,8,9],[4,7,8,9],[4,7,8,9],[0,1,2,3,7,8,9],[7,8,9],[7,8,9],[0,1,2,3,4,5,6],[0,1,2,3,4,5,6],[0,1,2,3,4,5,6],[],[],[],[14,15],[13,15,16],[13,14,16,17],[14,15],[15],[]]
 |_=>[]
def ag2:Nat→List (List Nat)
 |9=>[[5,8,10,11,12,13,14,15,16,17,18,19,20],[5,8,10,11,12,13,14,15,16,17,18,19,20],[5,8,10,11,12,13,14,15,16,17,18,19,20],[5,8,10,11,12,13,14,15,16,17,18,19,20],[5,8,10,11,12,13,14,15,16,17,18,19,20],[0,1,2,3,4,8,10,11,12,13,14,15,16,17,18,19,20],[8,10,11,12,13,14,15,16,17,18,19,20],[8,10,11,12,13,14,15,16,17,18,19,20],[0,1,2,3,4,5,6,7,10,11,12,13,14,15,16,17,18,19,20],[10,11,12,13,14,15,16,17,18,19,20],[0,1,2,3,4,5,6,7,8,9,14,17,21],[0,1,2,3,4,5,6,7,8,9,14,17,21],[0,1,2,3,4,5,6,7,8,9,14,17,21],[0,1,2,3,4,5,6,7,8,9,14,17,21],[0,1,2,3,4,5,6,7,8,9,10,11,12,13,17,21],[0,1,2,3,4,5,6,7,8,9,17,21],[0,1,2,3,4,5,6,7,8,9,17,21],[0,1,2,3,4,5,6,7,8,9,10,11,12,13,14,15,16,21],[0,1,2,3,4,5,6,7,8,9,21],[0,1,2,3,4,5,6,7,8,9,21],[0,1,2,3,4,5,6,7,8,9,21],[10,11,12,13,14,15,16,17,18,19,20],[]]
 |_=>[]
def ag3:Nat→List (List Nat)
 |6=>[[3,4,5],[3,4,5],[3,4,5],[0,1,2],[0,1,2],[0,1,2],[],[]]
 |7=>[[3,4,5],[3,4,5],[3,4,5],[0,1,2],[0,1,2],[0,1,2],[],[]]
 |8=>[[3,4,5,6,7,8,9,10,11,12],[3,4,5,6,7,8,9,10,11,12],[3,4,5,6,7,8,9,10,11,12],[0,1,2,6,7,8,9,10,11,12],[0,1,2,6,7,8,9,10,11,12],[0,1,2,6,7,8,9,10,11,12],[0,1,2,3,4,5,7,8,9,12],[0,1,2,3,4,5,6,12],[0,1,2,3,4,5,6,12],[0,1,2,3,4,5,6,12],[0,1,2,3,4,5,12],[0,1,2,3,4,5,12],[0,1,2,3,4,5,6,7,8,9,10,11],[],[]]
 |11=>[[3,4,5],[3,4,5],[3,4,5],[0,1,2],[0,1,2],[0,1,2],[],[]]
 |14=>[[3,4,5],[3,4,5],[3,4,5],[0,1,2],[0,1,2],[0,1,2],[],[]]
 |15=>[[3,4,5,6,7,8,9,10,11,12],[3,4,5,6,7,8,9,10,11,12],[3,4,5,6,7,8,9,10,11,12],[0,1,2,6,7,8,9,10,11,12],[0,1,2,6,7,8,9,10,11,12],[0,1,2,6,7,8,9,10,11,12],[0,1,2,3,4,5,7,8,9,12],[0,1,2,3,4,5,6,12],[0,1,2,3,4,5,6,12],[0,1,2,3,4,5,6,12],[0,1,2,3,4,5,12],[0,1,2,3,4,5,12],[0,1,2,3,4,5,6,7,8,9,10,11],[],[]]
 |17=>[[3,4,5,6,7,8],[3,4,5,6,7,8],[3,4,5,6,7,8],[0,1,2,6,7,8,9],[0,1,2,6,7,8,9],[0,1,2,6,7,8,9],[0,1,2,3,4,5,9,10],[0,1,2,3,4,5,9,10],[0,1,2,3,4,5,9,10],[3,4,5,6,7,8],[6,7,8],[]]
 |24=>[[3,4,5,6,7,8,9,10,11,12,13],[3,4,5,6,7,8,9,10,11,12,13],[3,4,5,6,7,8,9,10,11,12,13],[0,1,2,6,7,8,9,10,11,12,13],[0,1,2,6,7,8,9,10,11,12,13],[0,1,2,6,7,8,9,10,11,12,13],[0,1,2,3,4,5,7,8,9,10,11,12,13],[0,1,2,3,4,5,6,8,9,10,11,12,13],[0,1,2,3,4,5,6,7,13],[0,1,2,3,4,5,6,7,13],[0,1,2,3,4,5,6,7,13],[0,1,2,3,4,5,6,7,13],[0,1,2,3,4,5,6,7,13],[0,1,2,3,4,5,6,7,8,9,10,11,12],[],[]]
 |31=>[[3,4,5,6,7,8,9,10,11,12,13,14,15,16,17,18,19,20],[3,4,5,6,7,8,9,10,11,12,13,14,15,16,17,18,19,20],[3,4,5,6,7,8,9,10,11,12,13,14,15,16,17,18,19,20],[0,1,2,6,7,8,9,10,11,12,13,14,15,16,17,18,19,20],[0,1,2,6,7,8,9,10,11,12,13,14,15,16,17,18,19,20],[0,1,2,6,7,8,9,10,11,12,13,14,15,16,17,18,19,20],[0,1,2,3,4,5,9,10,11,12,13,14,15,16,17,18,19,20],[0,1,2,3,4,5,9,10,11,12,13,14,15,16,17,18,19,20],[0,1,2,3,4,5,9,10,11,12,13,14,15,16,17,18,19,20],[0,1,2,3,4,5,6,7,8,10,11,12,15,16,17,18,19],[0,1,2,3,4,5,6,7,8,9,15,16,17,18,19],[0,1,2,3,4,5,6,7,8,9,15,16,17,18,19],[0,1,2,3,4,5,6,7,8,9,15,16,17,18,19],[0,1,2,3,4,5,6,7,8,15,16,17,18,19],[0,1,2,3,4,5,6,7,8,15,16,17,18,19],[0,1,2,3,4,5,6,7,8,9,10,11,12,13,14,16,17,18,19,20],[0,1,2,3,4,5,6,7,8,9,10,11,12,13,14,15],[0,1,2,3,4,5,6,7,8,9,10,11,12,13,14,15],[0,1,2,3,4,5,6,7,8,9,10,11,12,13,14,15],[0,1,2,3,4,5,6,7,8,9,10,11,12,13,14,15],[0,1,2,3,4,5,6,7,8,15],[],[]]
 |38=>[[3,4,5,6,7,8,9,10,11,12,13,14,15,16,17],[3,4,5,6,7,8,9,10,11,12,13,14,15,16,17],[3,4,5,6,7,8,9,10,11,12,13,14,15,16,17],[0,1,2,6,7,8,9,10,11,12,13,14,15,16,17],[0,1,2,6,7,8,9,10,11,12,13,14,15,16,17],[0,1,2,6,7,8,9,10,11,12,13,14,15,16,17],[0,1,2,3,4,5,9,10,11,12,13,14,15,16,17],[0,1,2,3,4,5,9,10,11,12,13,14,15,16,17],[0,1,2,3,4,5,9,10,11,12,13,14,15,16,17],[0,1,2,3,4,5,6,7,8,12,13,14,15,16],[0,1,2,3,4,5,6,7,8,12,13,14,15,16],[0,1,2,3,4,5,6,7,8,12,13,14,15,16],[0,1,2,3,4,5,6,7,8,9,10,11,13,14,15,16,17],[0,1,2,3,4,5,6,7,8,9,10,11,12],[0,1,2,3,4,5,6,7,8,9,10,11,12],[0,1,2,3,4,5,6,7,8,9,10,11,12],[0,1,2,3,4,5,6,7,8,9,10,11,12],[0,1,2,3,4,5,6,7,8,12],[],[]]
 |40=>[[3,4,5,6,7,8,9,10,11,12,13,14,15,16,17,18],[3,4,5,6,7,8,9,10,11,12,13,14,15,16,17,18],[3,4,5,6,7,8,9,10,11,12,13,14,15,16,17,18],[0,1,2,14,15,16,17],[0,1,2,14,15,16,17],[0,1,2,14,15,16,17],[0,1,2,14,15,16,17],[0,1,2,14,15,16,17],[0,1,2,14,15,16,17],[0,1,2,14,15,16,17],[0,1,2,14,15,16,17],[0,1,2,14,15,16,17],[0,1,2,14,15,16,17],[0,1,2,14,15,16,17],[0,1,2,3,4,5,6,7,8,9,10,11,12,13],[0,1,2,3,4,5,6,7,8,9,10,11,12,13],[0,1,2,3,4,5,6,7,8,9,10,11,12,13],[0,1,2,3,4,5,6,7,8,9,10,11,12,13],[0,1,2],[],[]]
 |42=>[[3,4,5,6,7,8,9,10,11,12,13,14,15,16,17,18],[3,4,5,6,7,8,9,10,11,12,13,14,15,16,17,18],[3,4,5,6,7,8,9,10,11,12,13,14,15,16,17,18],[0,1,2,14,15,16,17],[0,1,2,14,15,16,17],[0,1,2,14,15,16,17],[0,1,2,14,15,16,17],[0,1,2,14,15,16,17],[0,1,2,14,15,16,17],[0,1,2,14,15,16,17],[0,1,2,14,15,16,17],[0,1,2,14,15,16,17],[0,1,2,14,15,16,17],[0,1,2,14,15,16,17],[0,1,2,3,4,5,6,7,8,9,10,11,12,13],[0,1,2,3,4,5,6,7,8,9,10,11,12,13],[0,1,2,3,4,5,6,7,8,9,10,11,12,13],[0,1,2,3,4,5,6,7,8,9,10,11,12,13],[0,1,2],[],[]]
 |44=>[[3,4,5,6,7,8,9,10,11,12,13,14,15,16,17,18,19,20,21,22],[3,4,5,6,7,8,9,10,11,12,13,14,15,16,17,18,19,20,21,22],[3,4,5,6,7,8,9,10,11,12,13,14,15,16,17,18,19,20,21,22],[0,1,2,6,7,8,9,10,11,12,13,14,15,16,17,18,19,20,21,22],[0,1,2,6,7,8,9,10,11,12,13,14,15,16,17,18,19,20,21,22],[0,1,2,6,7,8,9,10,11,12,13,14,15,16,17,18,19,20,21,22],[0,1,2,3,4,5],[0,1,2,3,4,5],[0,1,2,3,4,5],[0,1,2,3,4,5],[0,1,2,3,4,5],[0,1,2,3,4,5],[0,1,2,3,4,5],[0,1,2,3,4,5],[0,1,2,3,4,5],[0,1,2,3,4,5],[0,1,2,3,4,5],[0,1,2,3,4,5],[0,1,2,3,4,5],[0,1,2,3,4,5],[0,1,2,3,4,5],[0,1,2,3,4,5],[0,1,2,3,4,5],[],[]]
 |46=>[[3,4,5,6,7,8,9,10,11,12,13,14,15,16,17,18,19,20,21,22],[3,4,5,6,7,8,9,10,11,12,13,14,15,16,17,18,19,20,21,22],[3,4,5,6,7,8,9,10,11,12,13,14,15,16,17,18,19,20,21,22],[0,1,2,6,7,8,9,10,11,12,13,14,15,16,17,18,19,20,21,22],[0,1,2,6,7,8,9,10,11,12,13,14,15,16,17,18,19,20,21,22],[0,1,2,6,7,8,9,10,11,12,13,14,15,16,17,18,19,20,21,22],[0,1,2,3,4,5],[0,1,2,3,4,5],[0,1,2,3,4,5],[0,1,2,3,4,5],[0,1,2,3,4,5],[0,1,2,3,4,5],[0,1,2,3,4,5],[0,1,2,3,4,5],[0,1,2,3,4,5],[0,1,2,3,4,5],[0,1,2,3,4,5],[0,1,2,3,4,5],[0,1,2,3,4,5],[0,1,2,3,4,5],[0,1,2,3,4,5],[0,1,2,3,4,5],[0,1,2,3,4,5],[],[]]
 |_=>[]
def ag4:Nat→List (List Nat)
 |3=>[[4,5,6,7,8],[4,5,6,7,8],[4,5,6,7,8],[4,5,6,7,8],[0,1,2,3,5,6,7,8],[0,1,2,3,4,6,7],[0,1,2,3,4,5],[0,1,2,3,4,5],[0,1,2,3,4],[],[]]
 |6=>[[4,5,6,7,8],[4,5,6,7,8],[4,5,6,7,8],[4,5,6,7,8],[0,1,2,3,5,6,8],[0,1,2,3,4,6,8],[0,1,2,3,4,5,8],[0,1,2,3,8],[0,1,2,3,4,5,6,7],[],[]]
 |_=>[]
def ag5:Nat→List (List Nat)
 |6=>[[4,5,6,7,8,9,10,11],[4,5,6,7,8,9,10,11],[4,5,6,7,8,9,10,11],[4,5,6,7,8,9,10,11],[0,1,2,3,5,6,7,8,9,10,11],[0,1,2,3,4,6,7,8,9,10],[0,1,2,3,4,5,8],[0,1,2,3,4,5,8],[0,1,2,3,4,5,6,7],[0,1,2,3,4,5],[0,1,2,3,4,5],[0,1,2,3,4],[],[]]
 |9=>[[4,6,7,8,9,10,11,12,13,14,15,16,17],[4,6,7,8,9,10,11,12,13,14,15,16,17],[4,6,7,8,9,10,11,12,13,14,15,16,17],[4,6,7,8,9,10,11,12,13,14,15,16,17],[0,1,2,3,6,7,8,9,10,11,12,13,14,15,16,17],[6,7,8,9,10,11,12,13,14,15,16,17],[0,1,2,3,4,5,8,9,10,11,12,13,14,15,16],[0,1,2,3,4,5,8,9,10,11,12,13,14,15,16],[0,1,2,3,4,5,6,7,12,13,14,15],[0,1,2,3,4,5,6,7,12,13,14,15],[0,1,2,3,4,5,6,7,12,13,14,15],[0,1,2,3,4,5,6,7,12,13,14,15],[0,1,2,3,4,5,6,7,8,9,10,11,13,14,15],[0,1,2,3,4,5,6,7,8,9,10,11,12,14],[0,1,2,3,4,5,6,7,8,9,10,11,12,13],[0,1,2,3,4,5,6,7,8,9,10,11,12],[0,1,2,3,4,5,6,7],[0,1,2,3,4,5],[]]
 |_=>[]
def ag6:Nat→List (List Nat)
 |6=>[[2,5,6,7,8,9],[2,5,6,7,8,9],[0,1,5,6,7,8,9],[5,6,7,8,9],[5,6,7,8,9],[0,1,2,3,4,7,10],[0,1,2,3,4,7,10],[0,1,2,3,4,5,6,10],[0,1,2,3,4,10],[0,1,2,3,4,10],[5,6,7,8,9],[],[]]
 |_=>[]
def ag7:Nat→List (List Nat)
 |10=>[[1,4,5,6],[0,4,5,6],[4,5,6],[4,5,6],[0,1,2,3,6],[0,1,2,3,6],[0,1,2,3,4,5],[],[],[]]
 |_=>[]
def ag8:Nat→List (List Nat)
 |9=>[[1,3,4,5,6],[0,3,4,5,6],[3,4,5,6],[0,1,2,4,7],[0,1,2,3,7],[0,1,2,7],[0,1,2,7],[3,4,5,6],[],[]]
 |_=>[]
def ag9:Nat→List (List Nat)
 |2=>[[2,3],[2,3],[0,1,4],[0,1,4],[2,3],[]]
 |_=>[]
def aha:Nat→List (List Nat)
 |17=>[[3,4,5],[3,4,5],[3,4,5],[0,1,2,6],[0,1,2,6],[0,1,2,6],[3,4,5],[]]
 |_=>[]
def ahb:Nat→List (List Nat)
 |18=>[[5,6],[5,6],[5,6],[5,6],[5,6],[0,1,2,3,4],[0,1,2,3,4],[]]
 |_=>[]
def ahc:Nat→List (List Nat)
 |0=>[[3,4,5],[3,4,5],[3,4,5],[0,1,2],[0,1,2],[0,1,2],[]]
 |_=>[]
def ahd:Nat→List (List Nat)
 |2=>[[4,7,8,9,10,11,12,13,14],[4,7,8,9,10,11,12,13,14],[4,7,8,9,10,11,12,13,14],[4,7,8,9,10,11,12,13,14],[0,1,2,3,7,8,9,10,11,12,13,14],[7,8,9,10,11,12,13,14],[7,8,9,10,11,12,13,14],[0,1,2,3,4,5,6,12,15],[0,1,2,3,4,5,6,12,15],[0,1,2,3,4,5,6,12,15],[0,1,2,3,4,5,6,12,15],[0,1,2,3,4,5,6,12,15],[0,1,2,3,4,5,6,7,8,9,10,11,15],[0,1,2,3,4,5,6,15],[0,1,2,3,4,5,6,15],[7,8,9,10,11,12,13,14],[]]
 |_=>[]
def ahe:Nat→List (List Nat)
 |3=>[[4,7,9,10,11,12,13,14,15,16,17,18],[4,7,9,10,11,12,13,14,15,16,17,18],[4,7,9,10,11,12,13,14,15,16,17,18],[4,7,9,10,11,12,13,14,15,16,17,18],[0,1,2,3,7,9,10,11,12,13,14,15,16,17,18],[7,9,10,11,12,13,14,15,16,17,18],[7,9,10,11,12,13,14,15,16,17,18],[0,1,2,3,4,5,6,9,10,11,12,13,14,15,16,17,18],[9,10,11,12,13,14,15,16,17,18],[0,1,2,3,4,5,6,7,8,13,16,19],[0,1,2,3,4,5,6,7,8,13,16,19],[0,1,2,3,4,5,6,7,8,13,16,19],[0,1,2,3,4,5,6,7,8,13,16,19],[0,1,2,3,4,5,6,7,8,9,10,11,12,16,19],[0,1,2,3,4,5,6,7,8,16,19],[0,1,2,3,4,5,6,7,8,16,19],[0,1,2,3,4,5,6,7,8,9,10,11,12,13,14,15,19],[0,1,2,3,4,5,6,7,8,19],[0,1,2,3,4,5,6,7,8,19],[9,10,11,12,13,14,15,16,17,18],[]]
 |_=>[]
def ahf:Nat→List (List Nat)
 |5=>[[4,5,6],[4,5,6],[4,5,6],[4,5,6],[0,1,2,3,7],[0,1,2,3,7],[0,1,2,3,7],[4,5,6],[]]
 |8=>[[4,5,11],[4,5,11],[4,5,11],[4,5,11],[0,1,2,3,11],[0,1,2,3,11],[11],[11],[9,10,11],[8,10,11,12],[8,9,11,12,13],[0,1,2,3,4,5,6,7,8,9,10],[9,10],[10],[]]
 |11=>[[4,5,6,7,13],[4,5,6,7,13],[4,5,6,7,13],[4,5,6,7,13],[0,1,2,3,6,7,13],[0,1,2,3,6,7,13],[0,1,2,3,4,5,13],[0,1,2,3,4,5,13],[13],[13],[11,12,13],[10,12,13,14],[10,11,13,14,15],[0,1,2,3,4,5,6,7,8,9,10,11,12],[11,12],[12],[]]
 |12=>[[1,2],[0,3],[0,3],[1,2],[]]
 |15=>[[4,5,11],[4,5,11],[4,5,11],[4,5,11],[0,1,2,3,11],[0,1,2,3,11],[11],[11],[9,10,11],[8,10,11,12],[8,9,11,12,13],[0,1,2,3,4,5,6,7,8,9,10],[9,10],[10],[]]
 |17=>[[1,2,3,4,5,6,7,8,9,10,13,14,15],[0,4,5,6,7,8,13,14,15],[0,4,5,6,7,8,13,14,15],[0,4,5,6,7,8,13,14,15],[0,1,2,3,5,6,7,8,13,14,15],[0,1,2,3,4,7,8,13,14,15],[0,1,2,3,4,7,8,13,14,15],[0,1,2,3,4,5,6,13,14,15],[0,1,2,3,4,5,6,13,14,15],[0,13,14,15],[0,13,14,15],[13,14,15],[13,14,15],[0,1,2,3,4,5,6,7,8,9,10,11,12,16],[0,1,2,3,4,5,6,7,8,9,10,11,12,16],[0,1,2,3,4,5,6,7,8,9,10,11,12,16],[13,14,15],[]]
 |29=>[[1,2,5,6,7],[0,5,6,7],[0,5,6,7],[5,6,7],[5,6,7],[0,1,2,3,4],[0,1,2,3,4],[0,1,2,3,4],[],[13],[13],[13],[13],[9,10,11,12],[]]
 |_=>[]
def ahg:Nat→List (List Nat)
 |4=>[[1,2,7,8],[0,7,8],[0,7,8],[7,8],[7,8],[6,7,8],[5,7,8,9],[0,1,2,3,4,5,6,8],[0,1,2,3,4,5,6,7],[6],[]]
 |_=>[]
def ahh:Nat→List (List Nat)
 |4=>[[1,2,4,6,7],[0,4,6,7],[0,4,6,7],[4,6,7],[0,1,2,3,6,7],[6,7],[0,1,2,3,4,5],[0,1,2,3,4,5],[]]
 |_=>[]
def ahi:Nat→List (List Nat)
 |1=>[[1,4,5],[0,4,5],[4,5],[4,5],[0,1,2,3],[0,1,2,3],[]]
 |_=>[]
def ahj:Nat→List (List Nat)
 |1=>[[1,4,5],[0,4,5],[4,5],[4,5],[0,1,2,3],[0,1,2,3],[]]
 |_=>[]
def ahk:Nat→List (List Nat)
 |2=>[[2,3],[2,3],[0,1],[0,1],[]]
 |8=>[[2,4,7,8],[2,4,7,8],[0,1,4,7,8],[4,7,8],[0,1,2,3,7,8],[7,8],[7,8],[0,1,2,3,4,5,6],[0,1,2,3,4,5,6],[]]
 |9=>[[1,2,3,4,5,7,8,10,11,12,13,14,15],[0,3,7,8,10,11,12,13,14,15],[0,3,7,8,10,11,12,13,14,15],[0,1,2,7,8,10,11,12,13,14,15],[0,7,8,10,11,12,13,14,15],[0,7,8,10,11,12,13,14,15],[7,8,10,11,12,13,14,15],[0,1,2,3,4,5,6,10,11,12,13,14,15],[0,1,2,3,4,5,6,10,11,12,13,14,15],[10,11,12,13,14,15],[0,1,2,3,4,5,6,7,8,9,12],[0,1,2,3,4,5,6,7,8,9,12],[0,1,2,3,4,5,6,7,8,9,10,11],[0,1,2,3,4,5,6,7,8,9],[0,1,2,3,4,5,6,7,8,9],[0,1,2,3,4,5,6,7,8,9],[]]
 |_=>[]
def ahl:Nat→List (List Nat)
 |8=>[[1,2,3,5,6,7],[0,2,3,5,6,7],[0,1,5,6,7],[0,1,5,6,7],[5,6,7],[0,1,2,3,4,8],[0,1,2,3,4,8],[0,1,2,3,4,8],[5,6,7],[]]
 |12=>[[1,2,3,4,5,6,8,9,10],[0,2,3,5,6,8,9,10],[0,1,3,5,6,8,9,10],[0,1,2,5,6,8,9,10],[0,5,6,8,9,10],[0,1,2,3,4,8,9,10],[0,1,2,3,4,8,9,10],[8,9,10],[0,1,2,3,4,5,6,7,11],[0,1,2,3,4,5,6,7,11],[0,1,2,3,4,5,6,7,11],[8,9,10],[]]
 |15=>[[1,2,3,5,6,7],[0,2,3,5,6,7],[0,1,5,6,7],[0,1,5,6,7],[5,6,7],[0,1,2,3,4,8],[0,1,2,3,4,8],[0,1,2,3,4,8],[5,6,7],[]]
 |_=>[]
def ahm:Nat→List (List Nat)
 |8=>[[1,4,5,6,7],[0,4,5,6,7],[4,5,6,7],[4,5,6,7],[0,1,2,3,5],[0,1,2,3,4],[0,1,2,3],[0,1,2,3],[],[]]
 |_=>[]
def ahn:Nat→List (List Nat)
 |13=>[[1],[0,2],[1],[]]
 |_=>[]
def aho:Nat→List (List Nat)
 |5=>[[8,9],[8,9],[8,9],[8,9],[8,9],[8,9],[8,9],[8,9],[0,1,2,3,4,5,6,7],[0,1,2,3,4,5,6,7],[]]
 |_=>[]
def ahp:Nat→List (List Nat)
 |6=>[[1,2,3,4,5,6,7],[0,2,3,4,5,7],[0,1,4,5,7],[0,1,4,5,7],[0,1,2,3,7],[0,1,2,3,7],[0,7],[0,1,2,3,4,5,6],[],[]]
 |10=>[[2,3],[2,3],[0,1],[0,1],[]]
 |12=>[[2,3],[2,3],[0,1],[0,1],[]]
 |15=>[[1,2,3,5,6],[0,5,6],[0,5,6],[0,5,6],[5,6],[0,1,2,3,4],[0,1,2,3,4],[]]
 |17=>[[2,3],[2,3],[0,1],[0,1],[]]
 |_=>[]
def ahq:Nat→List (List Nat)
 |5=>[[1,4,5,6,7,9],[0,4,5,6,7,9],[4,5,6,7,9],[4,5,6,7,9],[0,1,2,3,5,9],[0,1,2,3,4,9],[0,1,2,3,9],[0,1,2,3,9],[9],[0,1,2,3,4,5,6,7,8],[],[]]
 |_=>[]
def ahr:Nat→List (List Nat)
 |4=>[[1,4,5,6,7],[0,4,5,6,7],[4,5,6,7],[4,5,6,7],[0,1,2,3,5],[0,1,2,3,4],[0,1,2,3],[0,1,2,3],[]]
 |6=>[[1,4,5,6,7],[0,4,5,6,7],[4,5,6,7],[4,5,6,7],[0,1,2,3,5],[0,1,2,3,4],[0,1,2,3],[0,1,2,3],[]]
 |_=>[]
def ahs:Nat→List (List Nat)
 |5=>[[1,5,6,7,8,10],[0,5,6,7,8,10],[5,6,7,8,10],[5,6,7,8,10],[5,6,7,8,10],[0,1,2,3,4,6,10],[0,1,2,3,4,5,10],[0,1,2,3,4,10],[0,1,2,3,4,10],[10],[0,1,2,3,4,5,6,7,8,9],[],[]]
 |_=>[]
def aht:Nat→List (List Nat)
 |2=>[[2,3],[2,3],[0,1],[0,1],[]]
 |_=>[]
end Go.Am
end
