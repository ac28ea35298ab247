/-
  The abstract machine, part 27: what is rewritten by itself.
-/
import Derived.Test.YtlbbjmbfclmmdaaDoorBm26
namespace Go.Am
open Go

attribute [simp] stepv.eq_1
attribute [simp] opOk.eq_1
attribute [simp] okAll.eq_1 okAll.eq_2
attribute [simp] Go.Op.operands.eq_1 Go.Op.operands.eq_2 Go.Op.operands.eq_3 Go.Op.operands.eq_4 Go.Op.operands.eq_5 Go.Op.operands.eq_6 Go.Op.operands.eq_7 Go.Op.operands.eq_8 Go.Op.operands.eq_9 Go.Op.operands.eq_10 Go.Op.operands.eq_11 Go.Op.operands.eq_12 Go.Op.operands.eq_13 Go.Op.operands.eq_14 Go.Op.operands.eq_15 Go.Op.operands.eq_16 Go.Op.operands.eq_17 Go.Op.operands.eq_18 Go.Op.operands.eq_19 Go.Op.operands.eq_20 Go.Op.operands.eq_21 Go.Op.operands.eq_22 Go.Op.operands.eq_23 Go.Op.operands.eq_24 Go.Op.operands.eq_25 Go.Op.operands.eq_26 Go.Op.operands.eq_27 Go.Op.operands.eq_28 Go.Op.operands.eq_29 Go.Op.operands.eq_30 Go.Op.operands.eq_31 Go.Op.operands.eq_32 Go.Op.operands.eq_33 Go.Op.operands.eq_34 Go.Op.operands.eq_35 Go.Op.operands.eq_36 Go.Op.operands.eq_37 Go.Op.operands.eq_38 Go.Op.operands.eq_39 Go.Op.operands.eq_40 Go.Op.operands.eq_41 Go.Op.operands.eq_42 Go.Op.operands.eq_43
attribute [simp] St.opd.eq_1 St.opd.eq_2 St.opd.eq_3 St.opd.eq_4
attribute [simp] Env.lk.eq_1 Env.lk.eq_2
attribute [simp] St.put.eq_1 St.put.eq_2
attribute [simp] Mem.get.eq_1 Mem.get.eq_2
attribute [simp] Mem.set.eq_1 Mem.set.eq_2
attribute [simp] AV.solid.eq_1 AV.solid.eq_2 AV.solid.eq_3
attribute [simp] constAV.eq_1 constAV.eq_2 constAV.eq_3 constAV.eq_4 constAV.eq_5 constAV.eq_6
attribute [simp] AV.cells.eq_1 AV.cells.eq_2 AV.cells.eq_3
attribute [simp] loadR.eq_1 loadR.eq_2 loadR.eq_3 loadR.eq_4 loadR.eq_5
attribute [simp] storeR.eq_1 storeR.eq_2 storeR.eq_3
attribute [simp] fieldRm.eq_1
attribute [simp] indexR.eq_1 indexR.eq_2
attribute [simp] binOpR.eq_1 binOpR.eq_2 binOpR.eq_3 binOpR.eq_4
attribute [simp] isNilV.eq_1 isNilV.eq_2 isNilV.eq_3 isNilV.eq_4
attribute [simp] binR.eq_1 binR.eq_2 binR.eq_3 binR.eq_4 binR.eq_5 binR.eq_6 binR.eq_7 binR.eq_8 binR.eq_9
attribute [simp] intBin.eq_1 intBin.eq_2 intBin.eq_3 intBin.eq_4 intBin.eq_5 intBin.eq_6 intBin.eq_7 intBin.eq_8 intBin.eq_9 intBin.eq_10 intBin.eq_11 intBin.eq_12 intBin.eq_13 intBin.eq_14 intBin.eq_15 intBin.eq_16
attribute [simp] strBin.eq_1 strBin.eq_2 strBin.eq_3 strBin.eq_4 strBin.eq_5 strBin.eq_6 strBin.eq_7 strBin.eq_8
attribute [simp] pickR.eq_1
attribute [simp] pickAV.eq_1 pickAV.eq_2
attribute [simp] pickD.eq_1 pickD.eq_2
attribute [simp] grd.eq_1
attribute [simp] mkAgg.eq_1
def consO {α : Type} (y : α) : Option (List α) → Option (List α)
  | some ys => some (y :: ys)
  | none => none
@[simp] theorem consO_some {α : Type} (y : α) (ys : List α) : consO y (some ys) = some (y :: ys) := rfl
@[simp] theorem consO_none {α : Type} (y : α) : consO y none = none := rfl
@[simp] theorem toDs_nil : toDs [] = some [] := rfl
@[simp] theorem toDs_d (y r) : toDs (.d y :: r) = consO y (toDs r) := by
  cases h : toDs r with
  | none => exact toDs.eq_3 _ _ (fun _ _ _ h2 => by rw [h] at h2; cases h2)
  | some ys => exact toDs.eq_2 _ _ _ h
@[simp] theorem toDs_vec (a b c d r) : toDs (.vec a b c d :: r) = none := by rw [toDs.eq_def]
@[simp] theorem toDs_ptr (a b c r) : toDs (.ptr a b c :: r) = none := by rw [toDs.eq_def]
@[simp] theorem toDs_lit (a r) : toDs (.lit a :: r) = none := by rw [toDs.eq_def]
@[simp] theorem toDs_fn (a b r) : toDs (.fn a b :: r) = none := by rw [toDs.eq_def]
@[simp] theorem toDs_nn (r) : toDs (.nn :: r) = none := by rw [toDs.eq_def]
@[simp] theorem toDs_junk (r) : toDs (.junk :: r) = none := by rw [toDs.eq_def]
attribute [simp] moveR.eq_1 moveR.eq_2
attribute [simp] unR.eq_1 unR.eq_2 unR.eq_3 unR.eq_4
attribute [simp] builtinR.eq_1 builtinR.eq_2 builtinR.eq_3 builtinR.eq_4 builtinR.eq_5 builtinR.eq_6
attribute [simp] lenRm.eq_1 lenRm.eq_2 lenRm.eq_3 lenRm.eq_4 lenRm.eq_5
attribute [simp] appR.eq_1
attribute [simp] srcRows.eq_1 srcRows.eq_2 srcRows.eq_3 srcRows.eq_4 srcRows.eq_5
attribute [simp] makeR.eq_1
attribute [simp] copyR.eq_1
attribute [simp] maxR.eq_1 maxR.eq_2
attribute [simp] foldMax.eq_1 foldMax.eq_2 foldMax.eq_3 foldMax.eq_4
attribute [simp] buildR.eq_1
attribute [simp] fillA.eq_1 fillA.eq_2
attribute [simp] buildSliceR.eq_1
attribute [simp] partDs.eq_1 partDs.eq_2
attribute [simp] convR.eq_1 convR.eq_2 convR.eq_3 convR.eq_4 convR.eq_5 convR.eq_6
attribute [simp] makeIfaceR.eq_1
attribute [simp] makeFuncR.eq_1 makeFuncR.eq_2
attribute [simp] extractR.eq_1 extractR.eq_2
attribute [simp] indexVR.eq_1 indexVR.eq_2 indexVR.eq_3 indexVR.eq_4
attribute [simp] sliceR.eq_1 sliceR.eq_2 sliceR.eq_3 sliceR.eq_4
attribute [simp] bound.eq_1 bound.eq_2 bound.eq_3
attribute [simp] putCells.eq_1 putCells.eq_2
attribute [simp] nilR.eq_1 nilR.eq_2 nilR.eq_3 nilR.eq_4 nilR.eq_5 nilR.eq_6 nilR.eq_7 nilR.eq_8 nilR.eq_9 nilR.eq_10 nilR.eq_11 nilR.eq_12
attribute [simp] D.cells.eq_1 D.cells.eq_2
attribute [simp] D.size.eq_1 D.size.eq_2
attribute [simp] D.flat.eq_1 D.flat.eq_2
attribute [simp] callVal.eq_1 callVal.eq_2
attribute [simp] argVals.eq_1 argVals.eq_2
attribute [simp] collect.eq_1 collect.eq_2 collect.eq_3
attribute [simp] argKeys.eq_1 argKeys.eq_2
attribute [simp] argBor.eq_1 argBor.eq_2
attribute [simp] avKeys.eq_1 avKeys.eq_2 avKeys.eq_3 avKeys.eq_4 avKeys.eq_5 avKeys.eq_6 avKeys.eq_7 avKeys.eq_8 avKeys.eq_9 avKeys.eq_10 avKeys.eq_11 avKeys.eq_12
attribute [simp] ptrKeys.eq_1 ptrKeys.eq_2 ptrKeys.eq_3 ptrKeys.eq_4 ptrKeys.eq_5 ptrKeys.eq_6 ptrKeys.eq_7
attribute [simp] vecKeys.eq_1 vecKeys.eq_2 vecKeys.eq_3 vecKeys.eq_4
attribute [simp] contKeys.eq_1 contKeys.eq_2
attribute [simp] vwArgs.eq_1 vwArgs.eq_2
attribute [simp] conts.eq_1 conts.eq_2
attribute [simp] selC.eq_1 selC.eq_2 selC.eq_3
attribute [simp] selE.eq_1 selE.eq_2
attribute [simp] findK.eq_1 findK.eq_2
attribute [simp] callBack.eq_1 callBack.eq_2
attribute [simp] frOk.eq_1 frOk.eq_2
attribute [simp] plainO.eq_1 plainO.eq_2
attribute [simp] plainL.eq_1 plainL.eq_2 plainL.eq_1 plainL.eq_2
attribute [simp] plainC.eq_1 plainC.eq_2 plainC.eq_3
attribute [simp] plainAV.eq_1 plainAV.eq_2 plainAV.eq_3 plainAV.eq_4 plainAV.eq_5 plainAV.eq_6 plainAV.eq_7 plainAV.eq_8 plainAV.eq_9 plainAV.eq_10 plainAV.eq_11 plainAV.eq_12
attribute [simp] plainD.eq_1 plainD.eq_2 plainD.eq_3 plainD.eq_4 plainD.eq_5 plainD.eq_6
attribute [simp] upO.eq_1 upO.eq_2
attribute [simp] up.eq_1 up.eq_2 up.eq_3 up.eq_4 up.eq_5 up.eq_6 up.eq_7 up.eq_8 up.eq_9 up.eq_10 up.eq_11 up.eq_12
attribute [simp] upC.eq_1 upC.eq_2 upC.eq_3
attribute [simp] backL.eq_1 backL.eq_2
attribute [simp] base.eq_1 base.eq_2
attribute [simp] putAll.eq_1 putAll.eq_2
attribute [simp] ghs.eq_1 ghs.eq_2
attribute [simp] Gh.go.eq_1 Gh.go.eq_2 Gh.go.eq_3
attribute [simp] finish.eq_1
attribute [simp] resAll.eq_1 resAll.eq_2
attribute [simp] resOne.eq_1 resOne.eq_2
attribute [simp] finKeys.eq_1
attribute [simp] St.trim1.eq_1
attribute [simp] refMem.eq_1 refMem.eq_2 refMem.eq_3
attribute [simp] refEnv.eq_1 refEnv.eq_2
attribute [simp] refAV.eq_1 refAV.eq_2 refAV.eq_3 refAV.eq_4 refAV.eq_5 refAV.eq_6 refAV.eq_7 refAV.eq_8 refAV.eq_9 refAV.eq_10 refAV.eq_11 refAV.eq_12
attribute [simp] St.trim.eq_1
attribute [simp] mapEnv.eq_1 mapEnv.eq_2
attribute [simp] mapM.eq_1 mapM.eq_2
attribute [simp] mapC.eq_1 mapC.eq_2 mapC.eq_3
attribute [simp] trAV.eq_1 trAV.eq_2 trAV.eq_3 trAV.eq_4 trAV.eq_5 trAV.eq_6 trAV.eq_7 trAV.eq_8 trAV.eq_9 trAV.eq_10 trAV.eq_11 trAV.eq_12
attribute [simp] envVals.eq_1 envVals.eq_2
attribute [simp] oneOf.eq_1 oneOf.eq_2
attribute [simp] AV.norm.eq_1 AV.norm.eq_2 AV.norm.eq_3 AV.norm.eq_4
attribute [simp] toD1.eq_1 toD1.eq_2 toD1.eq_3 toD1.eq_4
attribute [simp] toDsN.eq_1 toDsN.eq_2
attribute [simp] vw.eq_1 vw.eq_2 vw.eq_3 vw.eq_4 vw.eq_5 vw.eq_6 vw.eq_7 vw.eq_8 vw.eq_9 vw.eq_10 vw.eq_11 vw.eq_12
attribute [simp] selL.eq_1 selL.eq_2
attribute [simp] TK.agg.eq_1 TK.agg.eq_2 TK.agg.eq_3
attribute [simp] stepK.eq_1 stepK.eq_2 stepK.eq_3
attribute [simp] guardK.eq_1 guardK.eq_2 guardK.eq_3
attribute [simp] grdK.eq_1 grdK.eq_2
attribute [simp] specK.eq_1 specK.eq_2 specK.eq_3
attribute [simp] callK.eq_1 callK.eq_2 callK.eq_3
attribute [simp] panicK.eq_1 panicK.eq_2
attribute [simp] isB.eq_1 isB.eq_2
attribute [simp] boolOf.eq_1 boolOf.eq_2
attribute [simp] boxR.eq_1
attribute [simp] St.trims.eq_1 St.trims.eq_2
attribute [simp] vws.eq_1 vws.eq_2
attribute [simp] plainAVs.eq_1 plainAVs.eq_2
attribute [simp] plainDs.eq_1 plainDs.eq_2
attribute [simp] ups.eq_1 ups.eq_2
attribute [simp] refAVs.eq_1 refAVs.eq_2
attribute [simp] trAVs.eq_1 trAVs.eq_2
attribute [simp] avsKeys.eq_1 avsKeys.eq_2
attribute [simp] ptrsKeys.eq_1 ptrsKeys.eq_2
attribute [simp] vecsKeys.eq_1 vecsKeys.eq_2
attribute [simp] entryEnv.eq_1 entryEnv.eq_2
attribute [simp] inM.eq_1 inM.eq_2
attribute [simp] runSplit.eq_1 runSplit.eq_2 runSplit.eq_3
attribute [simp] emptyVec.eq_1 emptyVec.eq_2
attribute [simp] splitRun.eq_1
attribute [simp] touch.eq_1
attribute [simp] keysTop.eq_1 keysTop.eq_2
attribute [simp] keyTop.eq_1 keyTop.eq_2 keyTop.eq_3 keyTop.eq_4
attribute [simp] dstepK.eq_1 dstepK.eq_2 dstepK.eq_3
attribute [simp] dguardK.eq_1 dguardK.eq_2 dguardK.eq_3
attribute [simp] dgrdK.eq_1 dgrdK.eq_2
attribute [simp] dspecK.eq_1 dspecK.eq_2
attribute [simp] dcallK.eq_1 dcallK.eq_2
attribute [simp] fzAV.eq_1 fzAV.eq_2 fzAV.eq_3 fzAV.eq_4 fzAV.eq_5 fzAV.eq_6 fzAV.eq_7 fzAV.eq_8 fzAV.eq_9 fzAV.eq_10 fzAV.eq_11 fzAV.eq_12
attribute [simp] fzAVs.eq_1 fzAVs.eq_2
attribute [simp] St.freeze.eq_1
attribute [simp] St.adopt.eq_1
attribute [simp] Go.Call.operands.eq_1
attribute [simp] D.isByte.eq_1 D.isByte.eq_2
attribute [simp] eqFlat.eq_1 eqFlat.eq_2 eqFlat.eq_3 eqFlat.eq_4
attribute [simp] eqFlats.eq_1 eqFlats.eq_2 eqFlats.eq_3
attribute [simp] glk.eq_1 glk.eq_2
attribute [simp] denK_skip denK_exit denK_ret denK_seq denK_block denK_cond denK_region denK_draw seqK_n seqK_x seqK_r seqK_p blkK_n blkK_x blkK_r blkK_p loopK_n loopK_x loopK_r loopK_p leaveK_n leaveK_p finK_n finK_r finK_p runK_nil runK_cons runK_guard callK_ite callBack_ite drwK_cons drwK_guard dcallK_ite
attribute [simp] frzO.eq_1 frzO.eq_2 frzR.eq_1 frzR.eq_2 mkM.eq_1 mkM.eq_2
attribute [simp] forkK.eq_1 forkK.eq_2
attribute [simp] dforkK.eq_1 dforkK.eq_2
attribute [simp] gdst.eq_1
attribute [simp] dstAt.eq_1
attribute [simp] St.cz St.prune keyOf St.leave finVals finTrim finOut St.mapAll nvX nv0 callOk entry dead callOp callOp2 callOp3 D.at D.cell D.setCells finPanic
/- Cells that are data. -/
@[simp] theorem vws_d (m ρ bor nv) : ∀ ds : List D, vws m ρ bor nv (ds.map .d) = ds.map .d
  | [] => rfl
  | d :: r => by simp [vws_d m ρ bor nv r]
@[simp] theorem ups_d (ρ bs) : ∀ ds : List D, ups ρ bs (ds.map .d) = ds.map .d
  | [] => rfl
  | d :: r => by simp [ups_d ρ bs r]
@[simp] theorem avsKeys_d : ∀ ds : List D, avsKeys (ds.map .d) = []
  | [] => rfl
  | d :: r => by simp [avsKeys_d r]
@[simp] theorem refAVs_d (k v) : ∀ ds : List D, refAVs k v (ds.map .d) = none
  | [] => rfl
  | d :: r => by simp [refAVs_d k v r]
@[simp] theorem trAVs_d (k v o l) : ∀ ds : List D, trAVs k v o l (ds.map .d) = ds.map .d
  | [] => rfl
  | d :: r => by simp [trAVs_d k v o l r]
@[simp] theorem plainAVs_d : ∀ ds : List D, plainAVs (ds.map .d) = plainDs ds
  | [] => rfl
  | d :: r => by simp [plainAVs_d r]
attribute [simp] List.take_of_length_le
/-- A part of code by the way to it. -/
@[simp] def Code.at : Code → List Nat → Code
  | c, [] => c
  | .seq a b, i :: p => if i = 0 then Code.at a p else Code.at b p
  | .cond _ a b, i :: p => if i = 0 then Code.at a p else Code.at b p
  | .block _ c, _ :: p => Code.at c p
  | .loop c, _ :: p => Code.at c p
  | c, _ => c
end Go.Am
