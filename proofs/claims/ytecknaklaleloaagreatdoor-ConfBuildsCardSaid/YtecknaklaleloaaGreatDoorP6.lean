/-
  Texts of one proof, one behind the other.
-/
import Derived.Test.YtecknaklaleloaaGreatDoorP5
import Derived.Lib.SplitLaws
import Derived.Lib.TrimUEq
import Derived.Lib.IndexBytes
import Derived.Lib.AtoiAllCases
set_option linter.all false
section
namespace Go.Am
open Go
open Go.Proofs
set_option maxRecDepth 10000
noncomputable def keepL : List (Nat → List Nat) := [fun _ => [], fun _ => [], fun _ => [], keep3, keep4, keep5, keep6, keep7, keep8, keep9, keep10, keep11, keep12, keep13, keep14, keep15, keep16, keep17, keep18, keep19, keep20, keep21, keep22, keep23, keep24, keep25, keep26, keep27, keep28, keep29, keep30, keep31, keep32, keep33, keep34, keep35, keep36, keep37, keep38, keep39, keep40, keep41, keep42, keep43, keep44, keep45, keep46, keep47, keep48, keep49, keep50, keep51, keep52, keep53, keep54, keep55, keep56, keep57, keep58, keep59, keep60, keep61, keep62, keep63, keep64, keep65, keep66, keep67, keep68, fun _ => [], keep70, keep71, keep72, keep73, keep74, keep75, keep76, keep77, keep78, keep79, keep80, keep81, keep82, keep83, fun _ => [], keep85, keep86, keep87, keep88, keep89, keep90, fun _ => [], keep92, keep93, keep94, keep95, keep96, keep97, keep98, keep99, keep100, keep101, fun _ => [], fun _ => [], fun _ => [], fun _ => [], fun _ => [], fun _ => [], fun _ => [], fun _ => [], fun _ => [], fun _ => [], fun _ => [], fun _ => [], fun _ => [], fun _ => [], fun _ => [], fun _ => [], fun _ => [], fun _ => [], fun _ => [], fun _ => [], fun _ => [], fun _ => [], fun _ => [], fun _ => [], fun _ => [], fun _ => [], fun _ => [], fun _ => [], fun _ => []]
noncomputable def ghL : List (Nat → List Gh) := [fun _ => [], fun _ => [], fun _ => [], fun _ => [], fun _ => [], gh5, fun _ => [], fun _ => [], fun _ => [], fun _ => [], fun _ => [], fun _ => [], fun _ => [], fun _ => [], fun _ => [], fun _ => [], fun _ => [], fun _ => [], fun _ => [], fun _ => [], fun _ => [], fun _ => [], fun _ => [], fun _ => [], fun _ => [], fun _ => [], fun _ => [], fun _ => [], fun _ => [], fun _ => [], fun _ => [], fun _ => [], fun _ => [], fun _ => [], fun _ => [], fun _ => [], fun _ => [], fun _ => [], fun _ => [], fun _ => [], fun _ => [], fun _ => [], fun _ => [], fun _ => [], fun _ => [], fun _ => [], fun _ => [], fun _ => [], fun _ => [], fun _ => [], fun _ => [], fun _ => [], fun _ => [], fun _ => [], fun _ => [], fun _ => [], fun _ => [], fun _ => [], fun _ => [], fun _ => [], fun _ => [], fun _ => [], fun _ => [], fun _ => [], fun _ => [], fun _ => [], gh66, fun _ => [], fun _ => [], fun _ => [], fun _ => [], fun _ => [], fun _ => [], fun _ => [], fun _ => [], fun _ => [], fun _ => [], fun _ => [], fun _ => [], fun _ => [], fun _ => [], fun _ => [], fun _ => [], fun _ => [], fun _ => [], fun _ => [], fun _ => [], fun _ => [], fun _ => [], fun _ => [], fun _ => [], fun _ => [], fun _ => [], fun _ => [], fun _ => [], fun _ => [], fun _ => [], fun _ => [], fun _ => [], fun _ => [], fun _ => [], fun _ => [], fun _ => [], fun _ => [], fun _ => [], fun _ => [], fun _ => [], fun _ => [], fun _ => [], fun _ => [], fun _ => [], fun _ => [], fun _ => [], fun _ => [], fun _ => [], fun _ => [], fun _ => [], fun _ => [], fun _ => [], fun _ => [], fun _ => [], fun _ => [], fun _ => [], fun _ => [], fun _ => [], fun _ => [], fun _ => [], fun _ => [], fun _ => [], fun _ => [], fun _ => []]
noncomputable def mdL : List (Nat → Bool) := [fun _ => false, fun _ => false, fun _ => false, md3, md4, md5, md6, md7, md8, md9, md10, md11, md12, md13, md14, md15, md16, md17, md18, md19, md20, md21, md22, md23, md24, md25, md26, md27, md28, md29, md30, md31, md32, md33, md34, md35, md36, md37, md38, md39, md40, md41, md42, md43, md44, md45, md46, md47, md48, md49, md50, md51, md52, md53, md54, md55, md56, md57, md58, md59, md60, md61, md62, md63, md64, md65, md66, md67, md68, fun _ => false, md70, md71, md72, md73, md74, md75, md76, md77, md78, md79, md80, md81, md82, md83, fun _ => false, md85, md86, md87, md88, md89, md90, fun _ => false, md92, md93, md94, md95, md96, md97, md98, md99, md100, md101, fun _ => false, fun _ => false, fun _ => false, fun _ => false, fun _ => false, fun _ => false, fun _ => false, fun _ => false, fun _ => false, fun _ => false, fun _ => false, fun _ => false, fun _ => false, fun _ => false, fun _ => false, fun _ => false, fun _ => false, fun _ => false, fun _ => false, fun _ => false, fun _ => false, fun _ => false, fun _ => false, fun _ => false, fun _ => false, fun _ => false, fun _ => false, fun _ => false, fun _ => false]
noncomputable def fpL : List FPol := [⟨[], false, [], [], false⟩, ⟨[], false, [], [], false⟩, ⟨[], false, [], [], false⟩, fp3, fp4, fp5, fp6, fp7, fp8, fp9, fp10, fp11, fp12, fp13, fp14, fp15, fp16, fp17, fp18, fp19, fp20, fp21, fp22, fp23, fp24, fp25, fp26, fp27, fp28, fp29, fp30, fp31, fp32, fp33, fp34, fp35, fp36, fp37, fp38, fp39, fp40, fp41, fp42, fp43, fp44, fp45, fp46, fp47, fp48, fp49, fp50, fp51, fp52, fp53, fp54, fp55, fp56, fp57, fp58, fp59, fp60, fp61, fp62, fp63, fp64, fp65, fp66, fp67, fp68, ⟨[], false, [], [], false⟩, fp70, fp71, fp72, fp73, fp74, fp75, fp76, fp77, fp78, fp79, fp80, fp81, fp82, fp83, ⟨[], false, [], [], false⟩, fp85, fp86, fp87, fp88, fp89, fp90, ⟨[], false, [], [], false⟩, fp92, fp93, fp94, fp95, fp96, fp97, fp98, fp99, fp100, fp101, ⟨[], false, [], [], false⟩, ⟨[], false, [], [], false⟩, ⟨[], false, [], [], false⟩, ⟨[], false, [], [], false⟩, ⟨[], false, [], [], false⟩, ⟨[], false, [], [], false⟩, ⟨[], false, [], [], false⟩, ⟨[], false, [], [], false⟩, ⟨[], false, [], [], false⟩, ⟨[], false, [], [], false⟩, ⟨[], false, [], [], false⟩, ⟨[], false, [], [], false⟩, ⟨[], false, [], [], false⟩, ⟨[], false, [], [], false⟩, ⟨[], false, [], [], false⟩, ⟨[], false, [], [], false⟩, ⟨[], false, [], [], false⟩, ⟨[], false, [], [], false⟩, ⟨[], false, [], [], false⟩, ⟨[], false, [], [], false⟩, ⟨[], false, [], [], false⟩, ⟨[], false, [], [], false⟩, ⟨[], false, [], [], false⟩, ⟨[], false, [], [], false⟩, ⟨[], false, [], [], false⟩, ⟨[], false, [], [], false⟩, ⟨[], false, [], [], false⟩, ⟨[], false, [], [], false⟩, ⟨[], false, [], [], false⟩]
noncomputable def odL : List (Nat → List (List Nat)) := [fun _ => [], fun _ => [], fun _ => [], od3, od4, od5, od6, od7, od8, od9, od10, od11, od12, od13, od14, od15, od16, od17, od18, od19, od20, od21, od22, od23, od24, od25, od26, od27, od28, od29, od30, od31, od32, od33, od34, od35, od36, od37, od38, od39, od40, od41, od42, od43, od44, od45, od46, od47, od48, od49, od50, od51, od52, od53, od54, od55, od56, od57, od58, od59, od60, od61, od62, od63, od64, od65, od66, od67, od68, fun _ => [], od70, od71, od72, od73, od74, od75, od76, od77, od78, od79, od80, od81, od82, od83, fun _ => [], od85, od86, od87, od88, od89, od90, fun _ => [], od92, od93, od94, od95, od96, od97, od98, od99, od100, od101, fun _ => [], fun _ => [], fun _ => [], fun _ => [], fun _ => [], fun _ => [], fun _ => [], fun _ => [], fun _ => [], fun _ => [], fun _ => [], fun _ => [], fun _ => [], fun _ => [], fun _ => [], fun _ => [], fun _ => [], fun _ => [], fun _ => [], fun _ => [], fun _ => [], fun _ => [], fun _ => [], fun _ => [], fun _ => [], fun _ => [], fun _ => [], fun _ => [], fun _ => []]
noncomputable def flL : List (Nat → List (Nat × Nat)) := [fun _ => [], fun _ => [], fun _ => [], fun _ => [], fun _ => [], fun _ => [], fun _ => [], fun _ => [], fun _ => [], fun _ => [], fun _ => [], fun _ => [], fun _ => [], fun _ => [], fun _ => [], fun _ => [], fun _ => [], fun _ => [], fun _ => [], fun _ => [], fun _ => [], fun _ => [], fun _ => [], fun _ => [], fun _ => [], fun _ => [], fun _ => [], fun _ => [], fun _ => [], fun _ => [], fun _ => [], fun _ => [], fun _ => [], fun _ => [], fun _ => [], fun _ => [], fun _ => [], fun _ => [], fun _ => [], fun _ => [], fun _ => [], fun _ => [], fun _ => [], fun _ => [], fun _ => [], fun _ => [], fun _ => [], fun _ => [], fun _ => [], fun _ => [], fun _ => [], fun _ => [], fun _ => [], fun _ => [], fun _ => [], fun _ => [], fun _ => [], fun _ => [], fun _ => [], fun _ => [], fun _ => [], fun _ => [], fun _ => [], fun _ => [], fun _ => [], fun _ => [], fun _ => [], fun _ => [], fun _ => [], fun _ => [], fun _ => [], fun _ => [], fun _ => [], fun _ => [], fun _ => [], fun _ => [], fun _ => [], fun _ => [], fun _ => [], fun _ => [], fun _ => [], fun _ => [], fun _ => [], fun _ => [], fun _ => [], fun _ => [], fun _ => [], fun _ => [], fun _ => [], fun _ => [], fun _ => [], fun _ => [], fun _ => [], fun _ => [], fun _ => [], fun _ => [], fun _ => [], fun _ => [], fun _ => [], fun _ => [], fun _ => [], fun _ => [], fun _ => [], fun _ => [], fun _ => [], fun _ => [], fun _ => [], fun _ => [], fun _ => [], fun _ => [], fun _ => [], fun _ => [], fun _ => [], fun _ => [], fun _ => [], fun _ => [], fun _ => [], fun _ => [], fun _ => [], fun _ => [], fun _ => [], fun _ => [], fun _ => [], fun _ => [], fun _ => [], fun _ => [], fun _ => [], fun _ => [], fun _ => [], fun _ => [], fun _ => []]
def Mx2 : Type := Int
variable [Inhabited Mx2]
def tab10 : List Int := [1, 10, 100, 1000, 10000, 100000, 1000000, 10000000, 100000000, 1000000000, 10000000000, 100000000000, 1000000000000, 10000000000000, 100000000000000, 1000000000000000, 10000000000000000, 100000000000000000, 1000000000000000000, 10000000000000000000]
def gl0 : List (Nat × D) := [(0, .agg (tab10.map fun z => .int .u64 z)), (1, .int .i64 (id (α := Int) (default : Mx2))), (6, .opq), (7, .opq)]
@[simp] theorem glk_10 : glk gl0 0 = some (.agg (tab10.map fun z => .int .u64 z)) := rfl
def orc0 : FuncId → Option (List AV → Option AV)
  | 12 => some (liftO splitO)
  | 13 => some (ffO 14 32)
  | 16 => some (liftO itO)
  | 17 => some (liftO fiO)
  | 71 => some (piO)
  | _ => none
noncomputable def ctx : Ctx := ⟨Tryz.prog, gl0, fun f => keepL.getD f (fun _ => []), fun f => ghL.getD f (fun _ => []), fun f => mdL.getD f (fun _ => false), fun f => fpL.getD f ⟨[], false, [], [], false⟩, fun f => odL.getD f (fun _ => []), orc0, fun f => flL.getD f (fun _ => []), none⟩
@[simp] theorem ctx_P : ctx.P = Tryz.prog := rfl
@[simp] theorem ctx_gl : ctx.gl = gl0 := rfl
@[simp] def codeOf (fn : Func) : Code := fn.body.getD .skip
@[simp] theorem keepE3 : ctx.keep 3 = keep3 := rfl
@[simp] theorem ghE3 : ctx.gh 3 = fun _ => [] := rfl
@[simp] theorem mdE3 : ctx.md 3 = md3 := rfl
@[simp] theorem fpE3 : ctx.fp 3 = fp3 := rfl
@[simp] theorem flE3 : ctx.fl 3 = fun _ => [] := rfl
@[simp] theorem odE3 : ctx.od 3 = od3 := rfl
theorem run3 {args : List AV} {cs : List Cont} (h : callOk 129 fp3 args cs = true) : callT ctx 3 args cs = denK ctx 3 (codeOf Tryz.f3) (entry 129 gl0 args cs fp3.sites) (finK Tryz.prog fp3 cs.length [.tmp 2]) :=
  call_run rfl rfl Tryz.func3 rfl (by kernel_rfl) Tryz.ntmps3 (by rw [Tryz.results3]) rfl rfl h
theorem ov3 {cl : CallFn} (hcl : ∀ g a c r, cl g a c = some r → callT ctx g a c = some r) {args : List AV} {cs : List Cont} (h : callOk 129 fp3 args cs = true) : Le (denK (ctx.over cl) 3 (codeOf Tryz.f3) (entry 129 gl0 args cs fp3.sites) (finK Tryz.prog fp3 cs.length [.tmp 2])) (callT ctx 3 args cs) :=
  fun r hr => by rw [run3 h]; exact denK_over hcl hr
@[simp] theorem keepE4 : ctx.keep 4 = keep4 := rfl
@[simp] theorem ghE4 : ctx.gh 4 = fun _ => [] := rfl
@[simp] theorem mdE4 : ctx.md 4 = md4 := rfl
@[simp] theorem fpE4 : ctx.fp 4 = fp4 := rfl
@[simp] theorem flE4 : ctx.fl 4 = fun _ => [] := rfl
@[simp] theorem odE4 : ctx.od 4 = od4 := rfl
theorem run4 {args : List AV} {cs : List Cont} (h : callOk 39 fp4 args cs = true) : callT ctx 4 args cs = denK ctx 4 (codeOf Tryz.f4) (entry 39 gl0 args cs fp4.sites) (finK Tryz.prog fp4 cs.length [.tmp 0]) :=
  call_run rfl rfl Tryz.func4 rfl (by kernel_rfl) Tryz.ntmps4 (by rw [Tryz.results4]) rfl rfl h
theorem ov4 {cl : CallFn} (hcl : ∀ g a c r, cl g a c = some r → callT ctx g a c = some r) {args : List AV} {cs : List Cont} (h : callOk 39 fp4 args cs = true) : Le (denK (ctx.over cl) 4 (codeOf Tryz.f4) (entry 39 gl0 args cs fp4.sites) (finK Tryz.prog fp4 cs.length [.tmp 0])) (callT ctx 4 args cs) :=
  fun r hr => by rw [run4 h]; exact denK_over hcl hr
@[simp] theorem keepE5 : ctx.keep 5 = keep5 := rfl
@[simp] theorem ghE5 : ctx.gh 5 = gh5 := rfl
@[simp] theorem mdE5 : ctx.md 5 = md5 := rfl
@[simp] theorem fpE5 : ctx.fp 5 = fp5 := rfl
@[simp] theorem flE5 : ctx.fl 5 = fun _ => [] := rfl
@[simp] theorem odE5 : ctx.od 5 = od5 := rfl
theorem run5 {args : List AV} {cs : List Cont} (h : callOk 60 fp5 args cs = true) : callT ctx 5 args cs = denK ctx 5 (codeOf Tryz.f5) (entry 60 gl0 args cs fp5.sites) (finK Tryz.prog fp5 cs.length [.cell 2 25, .tmp 3, .tmp 4]) :=
  call_run rfl rfl Tryz.func5 rfl (by kernel_rfl) Tryz.ntmps5 (by rw [Tryz.results5]) rfl rfl h
theorem ov5 {cl : CallFn} (hcl : ∀ g a c r, cl g a c = some r → callT ctx g a c = some r) {args : List AV} {cs : List Cont} (h : callOk 60 fp5 args cs = true) : Le (denK (ctx.over cl) 5 (codeOf Tryz.f5) (entry 60 gl0 args cs fp5.sites) (finK Tryz.prog fp5 cs.length [.cell 2 25, .tmp 3, .tmp 4])) (callT ctx 5 args cs) :=
  fun r hr => by rw [run5 h]; exact denK_over hcl hr
@[simp] theorem keepE6 : ctx.keep 6 = keep6 := rfl
@[simp] theorem ghE6 : ctx.gh 6 = fun _ => [] := rfl
@[simp] theorem mdE6 : ctx.md 6 = md6 := rfl
@[simp] theorem fpE6 : ctx.fp 6 = fp6 := rfl
@[simp] theorem flE6 : ctx.fl 6 = fun _ => [] := rfl
@[simp] theorem odE6 : ctx.od 6 = od6 := rfl
theorem run6 {args : List AV} {cs : List Cont} (h : callOk 69 fp6 args cs = true) : callT ctx 6 args cs = denK ctx 6 (codeOf Tryz.f6) (entry 69 gl0 args cs fp6.sites) (finK Tryz.prog fp6 cs.length [.tmp 2, .tmp 3]) :=
  call_run rfl rfl Tryz.func6 rfl (by kernel_rfl) Tryz.ntmps6 (by rw [Tryz.results6]) rfl rfl h
theorem ov6 {cl : CallFn} (hcl : ∀ g a c r, cl g a c = some r → callT ctx g a c = some r) {args : List AV} {cs : List Cont} (h : callOk 69 fp6 args cs = true) : Le (denK (ctx.over cl) 6 (codeOf Tryz.f6) (entry 69 gl0 args cs fp6.sites) (finK Tryz.prog fp6 cs.length [.tmp 2, .tmp 3])) (callT ctx 6 args cs) :=
  fun r hr => by rw [run6 h]; exact denK_over hcl hr
@[simp] theorem keepE7 : ctx.keep 7 = keep7 := rfl
@[simp] theorem ghE7 : ctx.gh 7 = fun _ => [] := rfl
@[simp] theorem mdE7 : ctx.md 7 = md7 := rfl
@[simp] theorem fpE7 : ctx.fp 7 = fp7 := rfl
@[simp] theorem flE7 : ctx.fl 7 = fun _ => [] := rfl
@[simp] theorem odE7 : ctx.od 7 = od7 := rfl
theorem run7 {args : List AV} {cs : List Cont} (h : callOk 24 fp7 args cs = true) : callT ctx 7 args cs = denK ctx 7 (codeOf Tryz.f7) (entry 24 gl0 args cs fp7.sites) (finK Tryz.prog fp7 cs.length [.tmp 2]) :=
  call_run rfl rfl Tryz.func7 rfl (by kernel_rfl) Tryz.ntmps7 (by rw [Tryz.results7]) rfl rfl h
theorem ov7 {cl : CallFn} (hcl : ∀ g a c r, cl g a c = some r → callT ctx g a c = some r) {args : List AV} {cs : List Cont} (h : callOk 24 fp7 args cs = true) : Le (denK (ctx.over cl) 7 (codeOf Tryz.f7) (entry 24 gl0 args cs fp7.sites) (finK Tryz.prog fp7 cs.length [.tmp 2])) (callT ctx 7 args cs) :=
  fun r hr => by rw [run7 h]; exact denK_over hcl hr
@[simp] theorem keepE8 : ctx.keep 8 = keep8 := rfl
@[simp] theorem ghE8 : ctx.gh 8 = fun _ => [] := rfl
@[simp] theorem mdE8 : ctx.md 8 = md8 := rfl
@[simp] theorem fpE8 : ctx.fp 8 = fp8 := rfl
@[simp] theorem flE8 : ctx.fl 8 = fun _ => [] := rfl
@[simp] theorem odE8 : ctx.od 8 = od8 := rfl
theorem run8 {args : List AV} {cs : List Cont} (h : callOk 57 fp8 args cs = true) : callT ctx 8 args cs = denK ctx 8 (codeOf Tryz.f8) (entry 57 gl0 args cs fp8.sites) (finK Tryz.prog fp8 cs.length [.cell 10 47, .tmp 11]) :=
  call_run rfl rfl Tryz.func8 rfl (by kernel_rfl) Tryz.ntmps8 (by rw [Tryz.results8]) rfl rfl h
theorem ov8 {cl : CallFn} (hcl : ∀ g a c r, cl g a c = some r → callT ctx g a c = some r) {args : List AV} {cs : List Cont} (h : callOk 57 fp8 args cs = true) : Le (denK (ctx.over cl) 8 (codeOf Tryz.f8) (entry 57 gl0 args cs fp8.sites) (finK Tryz.prog fp8 cs.length [.cell 10 47, .tmp 11])) (callT ctx 8 args cs) :=
  fun r hr => by rw [run8 h]; exact denK_over hcl hr
@[simp] theorem keepE9 : ctx.keep 9 = keep9 := rfl
@[simp] theorem ghE9 : ctx.gh 9 = fun _ => [] := rfl
@[simp] theorem mdE9 : ctx.md 9 = md9 := rfl
@[simp] theorem fpE9 : ctx.fp 9 = fp9 := rfl
@[simp] theorem flE9 : ctx.fl 9 = fun _ => [] := rfl
@[simp] theorem odE9 : ctx.od 9 = od9 := rfl
theorem run9 {args : List AV} {cs : List Cont} (h : callOk 32 fp9 args cs = true) : callT ctx 9 args cs = denK ctx 9 (codeOf Tryz.f9) (entry 32 gl0 args cs fp9.sites) (finK Tryz.prog fp9 cs.length [.cell 4 55, .tmp 5]) :=
  call_run rfl rfl Tryz.func9 rfl (by kernel_rfl) Tryz.ntmps9 (by rw [Tryz.results9]) rfl rfl h
theorem ov9 {cl : CallFn} (hcl : ∀ g a c r, cl g a c = some r → callT ctx g a c = some r) {args : List AV} {cs : List Cont} (h : callOk 32 fp9 args cs = true) : Le (denK (ctx.over cl) 9 (codeOf Tryz.f9) (entry 32 gl0 args cs fp9.sites) (finK Tryz.prog fp9 cs.length [.cell 4 55, .tmp 5])) (callT ctx 9 args cs) :=
  fun r hr => by rw [run9 h]; exact denK_over hcl hr
@[simp] theorem keepE10 : ctx.keep 10 = keep10 := rfl
@[simp] theorem ghE10 : ctx.gh 10 = fun _ => [] := rfl
@[simp] theorem mdE10 : ctx.md 10 = md10 := rfl
@[simp] theorem fpE10 : ctx.fp 10 = fp10 := rfl
@[simp] theorem flE10 : ctx.fl 10 = fun _ => [] := rfl
@[simp] theorem odE10 : ctx.od 10 = od10 := rfl
theorem run10 {args : List AV} {cs : List Cont} (h : callOk 94 fp10 args cs = true) : callT ctx 10 args cs = denK ctx 10 (codeOf Tryz.f10) (entry 94 gl0 args cs fp10.sites) (finK Tryz.prog fp10 cs.length [.tmp 2]) :=
  call_run rfl rfl Tryz.func10 rfl (by kernel_rfl) Tryz.ntmps10 (by rw [Tryz.results10]) rfl rfl h
theorem ov10 {cl : CallFn} (hcl : ∀ g a c r, cl g a c = some r → callT ctx g a c = some r) {args : List AV} {cs : List Cont} (h : callOk 94 fp10 args cs = true) : Le (denK (ctx.over cl) 10 (codeOf Tryz.f10) (entry 94 gl0 args cs fp10.sites) (finK Tryz.prog fp10 cs.length [.tmp 2])) (callT ctx 10 args cs) :=
  fun r hr => by rw [run10 h]; exact denK_over hcl hr
@[simp] theorem keepE11 : ctx.keep 11 = keep11 := rfl
@[simp] theorem ghE11 : ctx.gh 11 = fun _ => [] := rfl
@[simp] theorem mdE11 : ctx.md 11 = md11 := rfl
@[simp] theorem fpE11 : ctx.fp 11 = fp11 := rfl
@[simp] theorem flE11 : ctx.fl 11 = fun _ => [] := rfl
@[simp] theorem odE11 : ctx.od 11 = od11 := rfl
theorem run11 {args : List AV} {cs : List Cont} (h : callOk 70 fp11 args cs = true) : callT ctx 11 args cs = denK ctx 11 (codeOf Tryz.f11) (entry 70 gl0 args cs fp11.sites) (finK Tryz.prog fp11 cs.length [.tmp 2]) :=
  call_run rfl rfl Tryz.func11 rfl (by kernel_rfl) Tryz.ntmps11 (by rw [Tryz.results11]) rfl rfl h
theorem ov11 {cl : CallFn} (hcl : ∀ g a c r, cl g a c = some r → callT ctx g a c = some r) {args : List AV} {cs : List Cont} (h : callOk 70 fp11 args cs = true) : Le (denK (ctx.over cl) 11 (codeOf Tryz.f11) (entry 70 gl0 args cs fp11.sites) (finK Tryz.prog fp11 cs.length [.tmp 2])) (callT ctx 11 args cs) :=
  fun r hr => by rw [run11 h]; exact denK_over hcl hr
@[simp] theorem keepE12 : ctx.keep 12 = keep12 := rfl
@[simp] theorem ghE12 : ctx.gh 12 = fun _ => [] := rfl
@[simp] theorem mdE12 : ctx.md 12 = md12 := rfl
@[simp] theorem fpE12 : ctx.fp 12 = fp12 := rfl
@[simp] theorem flE12 : ctx.fl 12 = fun _ => [] := rfl
@[simp] theorem odE12 : ctx.od 12 = od12 := rfl
@[simp] theorem orc_run12 {args : List AV} {cs : List Cont} : callT ctx 12 args cs = orcAns (liftO splitO) args cs := callT_orc rfl rfl
@[simp] theorem keepE13 : ctx.keep 13 = keep13 := rfl
@[simp] theorem ghE13 : ctx.gh 13 = fun _ => [] := rfl
@[simp] theorem mdE13 : ctx.md 13 = md13 := rfl
@[simp] theorem fpE13 : ctx.fp 13 = fp13 := rfl
@[simp] theorem flE13 : ctx.fl 13 = fun _ => [] := rfl
@[simp] theorem odE13 : ctx.od 13 = od13 := rfl
@[simp] theorem orc_run13 {args : List AV} {cs : List Cont} : callT ctx 13 args cs = orcAns (ffO 14 32) args cs := callT_orc rfl rfl
@[simp] theorem keepE14 : ctx.keep 14 = keep14 := rfl
@[simp] theorem ghE14 : ctx.gh 14 = fun _ => [] := rfl
@[simp] theorem mdE14 : ctx.md 14 = md14 := rfl
@[simp] theorem fpE14 : ctx.fp 14 = fp14 := rfl
@[simp] theorem flE14 : ctx.fl 14 = fun _ => [] := rfl
@[simp] theorem odE14 : ctx.od 14 = od14 := rfl
theorem run14 {args : List AV} {cs : List Cont} (h : callOk 5 fp14 args cs = true) : callT ctx 14 args cs = denK ctx 14 (codeOf Tryz.f14) (entry 5 gl0 args cs fp14.sites) (finK Tryz.prog fp14 cs.length [.tmp 2]) :=
  call_run rfl rfl Tryz.func14 rfl (by kernel_rfl) Tryz.ntmps14 (by rw [Tryz.results14]) rfl rfl h
theorem ov14 {cl : CallFn} (hcl : ∀ g a c r, cl g a c = some r → callT ctx g a c = some r) {args : List AV} {cs : List Cont} (h : callOk 5 fp14 args cs = true) : Le (denK (ctx.over cl) 14 (codeOf Tryz.f14) (entry 5 gl0 args cs fp14.sites) (finK Tryz.prog fp14 cs.length [.tmp 2])) (callT ctx 14 args cs) :=
  fun r hr => by rw [run14 h]; exact denK_over hcl hr
@[simp] theorem keepE15 : ctx.keep 15 = keep15 := rfl
@[simp] theorem ghE15 : ctx.gh 15 = fun _ => [] := rfl
@[simp] theorem mdE15 : ctx.md 15 = md15 := rfl
@[simp] theorem fpE15 : ctx.fp 15 = fp15 := rfl
@[simp] theorem flE15 : ctx.fl 15 = fun _ => [] := rfl
@[simp] theorem odE15 : ctx.od 15 = od15 := rfl
theorem run15 {args : List AV} {cs : List Cont} (h : callOk 76 fp15 args cs = true) : callT ctx 15 args cs = denK ctx 15 (codeOf Tryz.f15) (entry 76 gl0 args cs fp15.sites) (finK Tryz.prog fp15 cs.length [.tmp 4]) :=
  call_run rfl rfl Tryz.func15 rfl (by kernel_rfl) Tryz.ntmps15 (by rw [Tryz.results15]) rfl rfl h
theorem ov15 {cl : CallFn} (hcl : ∀ g a c r, cl g a c = some r → callT ctx g a c = some r) {args : List AV} {cs : List Cont} (h : callOk 76 fp15 args cs = true) : Le (denK (ctx.over cl) 15 (codeOf Tryz.f15) (entry 76 gl0 args cs fp15.sites) (finK Tryz.prog fp15 cs.length [.tmp 4])) (callT ctx 15 args cs) :=
  fun r hr => by rw [run15 h]; exact denK_over hcl hr
@[simp] theorem keepE16 : ctx.keep 16 = keep16 := rfl
@[simp] theorem ghE16 : ctx.gh 16 = fun _ => [] := rfl
@[simp] theorem mdE16 : ctx.md 16 = md16 := rfl
@[simp] theorem fpE16 : ctx.fp 16 = fp16 := rfl
@[simp] theorem flE16 : ctx.fl 16 = fun _ => [] := rfl
@[simp] theorem odE16 : ctx.od 16 = od16 := rfl
@[simp] theorem orc_run16 {args : List AV} {cs : List Cont} : callT ctx 16 args cs = orcAns (liftO itO) args cs := callT_orc rfl rfl
@[simp] theorem keepE17 : ctx.keep 17 = keep17 := rfl
@[simp] theorem ghE17 : ctx.gh 17 = fun _ => [] := rfl
@[simp] theorem mdE17 : ctx.md 17 = md17 := rfl
@[simp] theorem fpE17 : ctx.fp 17 = fp17 := rfl
@[simp] theorem flE17 : ctx.fl 17 = fun _ => [] := rfl
@[simp] theorem odE17 : ctx.od 17 = od17 := rfl
@[simp] theorem orc_run17 {args : List AV} {cs : List Cont} : callT ctx 17 args cs = orcAns (liftO fiO) args cs := callT_orc rfl rfl
@[simp] theorem keepE18 : ctx.keep 18 = keep18 := rfl
@[simp] theorem ghE18 : ctx.gh 18 = fun _ => [] := rfl
@[simp] theorem mdE18 : ctx.md 18 = md18 := rfl
@[simp] theorem fpE18 : ctx.fp 18 = fp18 := rfl
@[simp] theorem flE18 : ctx.fl 18 = fun _ => [] := rfl
@[simp] theorem odE18 : ctx.od 18 = od18 := rfl
theorem run18 {args : List AV} {cs : List Cont} (h : callOk 9 fp18 args cs = true) : callT ctx 18 args cs = denK ctx 18 (codeOf Tryz.f18) (entry 9 gl0 args cs fp18.sites) (finK Tryz.prog fp18 cs.length [.tmp 2]) :=
  call_run rfl rfl Tryz.func18 rfl (by kernel_rfl) Tryz.ntmps18 (by rw [Tryz.results18]) rfl rfl h
theorem ov18 {cl : CallFn} (hcl : ∀ g a c r, cl g a c = some r → callT ctx g a c = some r) {args : List AV} {cs : List Cont} (h : callOk 9 fp18 args cs = true) : Le (denK (ctx.over cl) 18 (codeOf Tryz.f18) (entry 9 gl0 args cs fp18.sites) (finK Tryz.prog fp18 cs.length [.tmp 2])) (callT ctx 18 args cs) :=
  fun r hr => by rw [run18 h]; exact denK_over hcl hr
@[simp] theorem keepE19 : ctx.keep 19 = keep19 := rfl
@[simp] theorem ghE19 : ctx.gh 19 = fun _ => [] := rfl
@[simp] theorem mdE19 : ctx.md 19 = md19 := rfl
@[simp] theorem fpE19 : ctx.fp 19 = fp19 := rfl
@[simp] theorem flE19 : ctx.fl 19 = fun _ => [] := rfl
@[simp] theorem odE19 : ctx.od 19 = od19 := rfl
theorem run19 {args : List AV} {cs : List Cont} (h : callOk 9 fp19 args cs = true) : callT ctx 19 args cs = denK ctx 19 (codeOf Tryz.f19) (entry 9 gl0 args cs fp19.sites) (finK Tryz.prog fp19 cs.length [.tmp 4]) :=
  call_run rfl rfl Tryz.func19 rfl (by kernel_rfl) Tryz.ntmps19 (by rw [Tryz.results19]) rfl rfl h
theorem ov19 {cl : CallFn} (hcl : ∀ g a c r, cl g a c = some r → callT ctx g a c = some r) {args : List AV} {cs : List Cont} (h : callOk 9 fp19 args cs = true) : Le (denK (ctx.over cl) 19 (codeOf Tryz.f19) (entry 9 gl0 args cs fp19.sites) (finK Tryz.prog fp19 cs.length [.tmp 4])) (callT ctx 19 args cs) :=
  fun r hr => by rw [run19 h]; exact denK_over hcl hr
@[simp] theorem keepE20 : ctx.keep 20 = keep20 := rfl
@[simp] theorem ghE20 : ctx.gh 20 = fun _ => [] := rfl
@[simp] theorem mdE20 : ctx.md 20 = md20 := rfl
@[simp] theorem fpE20 : ctx.fp 20 = fp20 := rfl
@[simp] theorem flE20 : ctx.fl 20 = fun _ => [] := rfl
@[simp] theorem odE20 : ctx.od 20 = od20 := rfl
theorem run20 {args : List AV} {cs : List Cont} (h : callOk 6 fp20 args cs = true) : callT ctx 20 args cs = denK ctx 20 (codeOf Tryz.f20) (entry 6 gl0 args cs fp20.sites) (finK Tryz.prog fp20 cs.length [.tmp 2]) :=
  call_run rfl rfl Tryz.func20 rfl (by kernel_rfl) Tryz.ntmps20 (by rw [Tryz.results20]) rfl rfl h
theorem ov20 {cl : CallFn} (hcl : ∀ g a c r, cl g a c = some r → callT ctx g a c = some r) {args : List AV} {cs : List Cont} (h : callOk 6 fp20 args cs = true) : Le (denK (ctx.over cl) 20 (codeOf Tryz.f20) (entry 6 gl0 args cs fp20.sites) (finK Tryz.prog fp20 cs.length [.tmp 2])) (callT ctx 20 args cs) :=
  fun r hr => by rw [run20 h]; exact denK_over hcl hr
@[simp] theorem keepE21 : ctx.keep 21 = keep21 := rfl
@[simp] theorem ghE21 : ctx.gh 21 = fun _ => [] := rfl
@[simp] theorem mdE21 : ctx.md 21 = md21 := rfl
@[simp] theorem fpE21 : ctx.fp 21 = fp21 := rfl
@[simp] theorem flE21 : ctx.fl 21 = fun _ => [] := rfl
@[simp] theorem odE21 : ctx.od 21 = od21 := rfl
theorem run21 {args : List AV} {cs : List Cont} (h : callOk 45 fp21 args cs = true) : callT ctx 21 args cs = denK ctx 21 (codeOf Tryz.f21) (entry 45 gl0 args cs fp21.sites) (finK Tryz.prog fp21 cs.length [.tmp 2]) :=
  call_run rfl rfl Tryz.func21 rfl (by kernel_rfl) Tryz.ntmps21 (by rw [Tryz.results21]) rfl rfl h
theorem ov21 {cl : CallFn} (hcl : ∀ g a c r, cl g a c = some r → callT ctx g a c = some r) {args : List AV} {cs : List Cont} (h : callOk 45 fp21 args cs = true) : Le (denK (ctx.over cl) 21 (codeOf Tryz.f21) (entry 45 gl0 args cs fp21.sites) (finK Tryz.prog fp21 cs.length [.tmp 2])) (callT ctx 21 args cs) :=
  fun r hr => by rw [run21 h]; exact denK_over hcl hr
@[simp] theorem keepE22 : ctx.keep 22 = keep22 := rfl
@[simp] theorem ghE22 : ctx.gh 22 = fun _ => [] := rfl
@[simp] theorem mdE22 : ctx.md 22 = md22 := rfl
@[simp] theorem fpE22 : ctx.fp 22 = fp22 := rfl
@[simp] theorem flE22 : ctx.fl 22 = fun _ => [] := rfl
@[simp] theorem odE22 : ctx.od 22 = od22 := rfl
theorem run22 {args : List AV} {cs : List Cont} (h : callOk 23 fp22 args cs = true) : callT ctx 22 args cs = denK ctx 22 (codeOf Tryz.f22) (entry 23 gl0 args cs fp22.sites) (finK Tryz.prog fp22 cs.length [.cell 4 40, .tmp 5]) :=
  call_run rfl rfl Tryz.func22 rfl (by kernel_rfl) Tryz.ntmps22 (by rw [Tryz.results22]) rfl rfl h
theorem ov22 {cl : CallFn} (hcl : ∀ g a c r, cl g a c = some r → callT ctx g a c = some r) {args : List AV} {cs : List Cont} (h : callOk 23 fp22 args cs = true) : Le (denK (ctx.over cl) 22 (codeOf Tryz.f22) (entry 23 gl0 args cs fp22.sites) (finK Tryz.prog fp22 cs.length [.cell 4 40, .tmp 5])) (callT ctx 22 args cs) :=
  fun r hr => by rw [run22 h]; exact denK_over hcl hr
@[simp] theorem keepE23 : ctx.keep 23 = keep23 := rfl
@[simp] theorem ghE23 : ctx.gh 23 = fun _ => [] := rfl
@[simp] theorem mdE23 : ctx.md 23 = md23 := rfl
@[simp] theorem fpE23 : ctx.fp 23 = fp23 := rfl
@[simp] theorem flE23 : ctx.fl 23 = fun _ => [] := rfl
@[simp] theorem odE23 : ctx.od 23 = od23 := rfl
theorem run23 {args : List AV} {cs : List Cont} (h : callOk 28 fp23 args cs = true) : callT ctx 23 args cs = denK ctx 23 (codeOf Tryz.f23) (entry 28 gl0 args cs fp23.sites) (finK Tryz.prog fp23 cs.length [.tmp 2]) :=
  call_run rfl rfl Tryz.func23 rfl (by kernel_rfl) Tryz.ntmps23 (by rw [Tryz.results23]) rfl rfl h
theorem ov23 {cl : CallFn} (hcl : ∀ g a c r, cl g a c = some r → callT ctx g a c = some r) {args : List AV} {cs : List Cont} (h : callOk 28 fp23 args cs = true) : Le (denK (ctx.over cl) 23 (codeOf Tryz.f23) (entry 28 gl0 args cs fp23.sites) (finK Tryz.prog fp23 cs.length [.tmp 2])) (callT ctx 23 args cs) :=
  fun r hr => by rw [run23 h]; exact denK_over hcl hr
@[simp] theorem keepE24 : ctx.keep 24 = keep24 := rfl
@[simp] theorem ghE24 : ctx.gh 24 = fun _ => [] := rfl
@[simp] theorem mdE24 : ctx.md 24 = md24 := rfl
@[simp] theorem fpE24 : ctx.fp 24 = fp24 := rfl
@[simp] theorem flE24 : ctx.fl 24 = fun _ => [] := rfl
@[simp] theorem odE24 : ctx.od 24 = od24 := rfl
theorem run24 {args : List AV} {cs : List Cont} (h : callOk 15 fp24 args cs = true) : callT ctx 24 args cs = denK ctx 24 (codeOf Tryz.f24) (entry 15 gl0 args cs fp24.sites) (finK Tryz.prog fp24 cs.length [.cell 4 45, .tmp 5]) :=
  call_run rfl rfl Tryz.func24 rfl (by kernel_rfl) Tryz.ntmps24 (by rw [Tryz.results24]) rfl rfl h
theorem ov24 {cl : CallFn} (hcl : ∀ g a c r, cl g a c = some r → callT ctx g a c = some r) {args : List AV} {cs : List Cont} (h : callOk 15 fp24 args cs = true) : Le (denK (ctx.over cl) 24 (codeOf Tryz.f24) (entry 15 gl0 args cs fp24.sites) (finK Tryz.prog fp24 cs.length [.cell 4 45, .tmp 5])) (callT ctx 24 args cs) :=
  fun r hr => by rw [run24 h]; exact denK_over hcl hr
@[simp] theorem keepE25 : ctx.keep 25 = keep25 := rfl
@[simp] theorem ghE25 : ctx.gh 25 = fun _ => [] := rfl
@[simp] theorem mdE25 : ctx.md 25 = md25 := rfl
@[simp] theorem fpE25 : ctx.fp 25 = fp25 := rfl
@[simp] theorem flE25 : ctx.fl 25 = fun _ => [] := rfl
@[simp] theorem odE25 : ctx.od 25 = od25 := rfl
theorem run25 {args : List AV} {cs : List Cont} (h : callOk 12 fp25 args cs = true) : callT ctx 25 args cs = denK ctx 25 (codeOf Tryz.f25) (entry 12 gl0 args cs fp25.sites) (finK Tryz.prog fp25 cs.length [.cell 2 51, .tmp 3]) :=
  call_run rfl rfl Tryz.func25 rfl (by kernel_rfl) Tryz.ntmps25 (by rw [Tryz.results25]) rfl rfl h
theorem ov25 {cl : CallFn} (hcl : ∀ g a c r, cl g a c = some r → callT ctx g a c = some r) {args : List AV} {cs : List Cont} (h : callOk 12 fp25 args cs = true) : Le (denK (ctx.over cl) 25 (codeOf Tryz.f25) (entry 12 gl0 args cs fp25.sites) (finK Tryz.prog fp25 cs.length [.cell 2 51, .tmp 3])) (callT ctx 25 args cs) :=
  fun r hr => by rw [run25 h]; exact denK_over hcl hr
@[simp] theorem keepE26 : ctx.keep 26 = keep26 := rfl
@[simp] theorem ghE26 : ctx.gh 26 = fun _ => [] := rfl
@[simp] theorem mdE26 : ctx.md 26 = md26 := rfl
@[simp] theorem fpE26 : ctx.fp 26 = fp26 := rfl
@[simp] theorem flE26 : ctx.fl 26 = fun _ => [] := rfl
@[simp] theorem odE26 : ctx.od 26 = od26 := rfl
theorem run26 {args : List AV} {cs : List Cont} (h : callOk 15 fp26 args cs = true) : callT ctx 26 args cs = denK ctx 26 (codeOf Tryz.f26) (entry 15 gl0 args cs fp26.sites) (finK Tryz.prog fp26 cs.length [.cell 4 53, .tmp 5]) :=
  call_run rfl rfl Tryz.func26 rfl (by kernel_rfl) Tryz.ntmps26 (by rw [Tryz.results26]) rfl rfl h
theorem ov26 {cl : CallFn} (hcl : ∀ g a c r, cl g a c = some r → callT ctx g a c = some r) {args : List AV} {cs : List Cont} (h : callOk 15 fp26 args cs = true) : Le (denK (ctx.over cl) 26 (codeOf Tryz.f26) (entry 15 gl0 args cs fp26.sites) (finK Tryz.prog fp26 cs.length [.cell 4 53, .tmp 5])) (callT ctx 26 args cs) :=
  fun r hr => by rw [run26 h]; exact denK_over hcl hr
@[simp] theorem keepE27 : ctx.keep 27 = keep27 := rfl
@[simp] theorem ghE27 : ctx.gh 27 = fun _ => [] := rfl
@[simp] theorem mdE27 : ctx.md 27 = md27 := rfl
@[simp] theorem fpE27 : ctx.fp 27 = fp27 := rfl
@[simp] theorem flE27 : ctx.fl 27 = fun _ => [] := rfl
@[simp] theorem odE27 : ctx.od 27 = od27 := rfl
theorem run27 {args : List AV} {cs : List Cont} (h : callOk 19 fp27 args cs = true) : callT ctx 27 args cs = denK ctx 27 (codeOf Tryz.f27) (entry 19 gl0 args cs fp27.sites) (finK Tryz.prog fp27 cs.length [.tmp 2]) :=
  call_run rfl rfl Tryz.func27 rfl (by kernel_rfl) Tryz.ntmps27 (by rw [Tryz.results27]) rfl rfl h
theorem ov27 {cl : CallFn} (hcl : ∀ g a c r, cl g a c = some r → callT ctx g a c = some r) {args : List AV} {cs : List Cont} (h : callOk 19 fp27 args cs = true) : Le (denK (ctx.over cl) 27 (codeOf Tryz.f27) (entry 19 gl0 args cs fp27.sites) (finK Tryz.prog fp27 cs.length [.tmp 2])) (callT ctx 27 args cs) :=
  fun r hr => by rw [run27 h]; exact denK_over hcl hr
@[simp] theorem keepE28 : ctx.keep 28 = keep28 := rfl
@[simp] theorem ghE28 : ctx.gh 28 = fun _ => [] := rfl
@[simp] theorem mdE28 : ctx.md 28 = md28 := rfl
@[simp] theorem fpE28 : ctx.fp 28 = fp28 := rfl
@[simp] theorem flE28 : ctx.fl 28 = fun _ => [] := rfl
@[simp] theorem odE28 : ctx.od 28 = od28 := rfl
theorem run28 {args : List AV} {cs : List Cont} (h : callOk 45 fp28 args cs = true) : callT ctx 28 args cs = denK ctx 28 (codeOf Tryz.f28) (entry 45 gl0 args cs fp28.sites) (finK Tryz.prog fp28 cs.length [.tmp 4]) :=
  call_run rfl rfl Tryz.func28 rfl (by kernel_rfl) Tryz.ntmps28 (by rw [Tryz.results28]) rfl rfl h
theorem ov28 {cl : CallFn} (hcl : ∀ g a c r, cl g a c = some r → callT ctx g a c = some r) {args : List AV} {cs : List Cont} (h : callOk 45 fp28 args cs = true) : Le (denK (ctx.over cl) 28 (codeOf Tryz.f28) (entry 45 gl0 args cs fp28.sites) (finK Tryz.prog fp28 cs.length [.tmp 4])) (callT ctx 28 args cs) :=
  fun r hr => by rw [run28 h]; exact denK_over hcl hr
@[simp] theorem keepE29 : ctx.keep 29 = keep29 := rfl
@[simp] theorem ghE29 : ctx.gh 29 = fun _ => [] := rfl
@[simp] theorem mdE29 : ctx.md 29 = md29 := rfl
@[simp] theorem fpE29 : ctx.fp 29 = fp29 := rfl
@[simp] theorem flE29 : ctx.fl 29 = fun _ => [] := rfl
@[simp] theorem odE29 : ctx.od 29 = od29 := rfl
theorem run29 {args : List AV} {cs : List Cont} (h : callOk 12 fp29 args cs = true) : callT ctx 29 args cs = denK ctx 29 (codeOf Tryz.f29) (entry 12 gl0 args cs fp29.sites) (finK Tryz.prog fp29 cs.length [.cell 2 33]) :=
  call_run rfl rfl Tryz.func29 rfl (by kernel_rfl) Tryz.ntmps29 (by rw [Tryz.results29]) rfl rfl h
theorem ov29 {cl : CallFn} (hcl : ∀ g a c r, cl g a c = some r → callT ctx g a c = some r) {args : List AV} {cs : List Cont} (h : callOk 12 fp29 args cs = true) : Le (denK (ctx.over cl) 29 (codeOf Tryz.f29) (entry 12 gl0 args cs fp29.sites) (finK Tryz.prog fp29 cs.length [.cell 2 33])) (callT ctx 29 args cs) :=
  fun r hr => by rw [run29 h]; exact denK_over hcl hr
@[simp] theorem keepE30 : ctx.keep 30 = keep30 := rfl
@[simp] theorem ghE30 : ctx.gh 30 = fun _ => [] := rfl
@[simp] theorem mdE30 : ctx.md 30 = md30 := rfl
@[simp] theorem fpE30 : ctx.fp 30 = fp30 := rfl
@[simp] theorem flE30 : ctx.fl 30 = fun _ => [] := rfl
@[simp] theorem odE30 : ctx.od 30 = od30 := rfl
theorem run30 {args : List AV} {cs : List Cont} (h : callOk 39 fp30 args cs = true) : callT ctx 30 args cs = denK ctx 30 (codeOf Tryz.f30) (entry 39 gl0 args cs fp30.sites) (finK Tryz.prog fp30 cs.length [.tmp 2]) :=
  call_run rfl rfl Tryz.func30 rfl (by kernel_rfl) Tryz.ntmps30 (by rw [Tryz.results30]) rfl rfl h
theorem ov30 {cl : CallFn} (hcl : ∀ g a c r, cl g a c = some r → callT ctx g a c = some r) {args : List AV} {cs : List Cont} (h : callOk 39 fp30 args cs = true) : Le (denK (ctx.over cl) 30 (codeOf Tryz.f30) (entry 39 gl0 args cs fp30.sites) (finK Tryz.prog fp30 cs.length [.tmp 2])) (callT ctx 30 args cs) :=
  fun r hr => by rw [run30 h]; exact denK_over hcl hr
@[simp] theorem keepE31 : ctx.keep 31 = keep31 := rfl
@[simp] theorem ghE31 : ctx.gh 31 = fun _ => [] := rfl
@[simp] theorem mdE31 : ctx.md 31 = md31 := rfl
@[simp] theorem fpE31 : ctx.fp 31 = fp31 := rfl
@[simp] theorem flE31 : ctx.fl 31 = fun _ => [] := rfl
@[simp] theorem odE31 : ctx.od 31 = od31 := rfl
theorem run31 {args : List AV} {cs : List Cont} (h : callOk 33 fp31 args cs = true) : callT ctx 31 args cs = denK ctx 31 (codeOf Tryz.f31) (entry 33 gl0 args cs fp31.sites) (finK Tryz.prog fp31 cs.length [.tmp 2]) :=
  call_run rfl rfl Tryz.func31 rfl (by kernel_rfl) Tryz.ntmps31 (by rw [Tryz.results31]) rfl rfl h
theorem ov31 {cl : CallFn} (hcl : ∀ g a c r, cl g a c = some r → callT ctx g a c = some r) {args : List AV} {cs : List Cont} (h : callOk 33 fp31 args cs = true) : Le (denK (ctx.over cl) 31 (codeOf Tryz.f31) (entry 33 gl0 args cs fp31.sites) (finK Tryz.prog fp31 cs.length [.tmp 2])) (callT ctx 31 args cs) :=
  fun r hr => by rw [run31 h]; exact denK_over hcl hr
@[simp] theorem keepE32 : ctx.keep 32 = keep32 := rfl
@[simp] theorem ghE32 : ctx.gh 32 = fun _ => [] := rfl
@[simp] theorem mdE32 : ctx.md 32 = md32 := rfl
@[simp] theorem fpE32 : ctx.fp 32 = fp32 := rfl
@[simp] theorem flE32 : ctx.fl 32 = fun _ => [] := rfl
@[simp] theorem odE32 : ctx.od 32 = od32 := rfl
theorem run32 {args : List AV} {cs : List Cont} (h : callOk 117 fp32 args cs = true) : callT ctx 32 args cs = denK ctx 32 (codeOf Tryz.f32) (entry 117 gl0 args cs fp32.sites) (finK Tryz.prog fp32 cs.length [.tmp 2]) :=
  call_run rfl rfl Tryz.func32 rfl (by kernel_rfl) Tryz.ntmps32 (by rw [Tryz.results32]) rfl rfl h
theorem ov32 {cl : CallFn} (hcl : ∀ g a c r, cl g a c = some r → callT ctx g a c = some r) {args : List AV} {cs : List Cont} (h : callOk 117 fp32 args cs = true) : Le (denK (ctx.over cl) 32 (codeOf Tryz.f32) (entry 117 gl0 args cs fp32.sites) (finK Tryz.prog fp32 cs.length [.tmp 2])) (callT ctx 32 args cs) :=
  fun r hr => by rw [run32 h]; exact denK_over hcl hr
@[simp] theorem keepE33 : ctx.keep 33 = keep33 := rfl
@[simp] theorem ghE33 : ctx.gh 33 = fun _ => [] := rfl
@[simp] theorem mdE33 : ctx.md 33 = md33 := rfl
@[simp] theorem fpE33 : ctx.fp 33 = fp33 := rfl
@[simp] theorem flE33 : ctx.fl 33 = fun _ => [] := rfl
@[simp] theorem odE33 : ctx.od 33 = od33 := rfl
theorem run33 {args : List AV} {cs : List Cont} (h : callOk 44 fp33 args cs = true) : callT ctx 33 args cs = denK ctx 33 (codeOf Tryz.f33) (entry 44 gl0 args cs fp33.sites) (finK Tryz.prog fp33 cs.length [.tmp 2]) :=
  call_run rfl rfl Tryz.func33 rfl (by kernel_rfl) Tryz.ntmps33 (by rw [Tryz.results33]) rfl rfl h
theorem ov33 {cl : CallFn} (hcl : ∀ g a c r, cl g a c = some r → callT ctx g a c = some r) {args : List AV} {cs : List Cont} (h : callOk 44 fp33 args cs = true) : Le (denK (ctx.over cl) 33 (codeOf Tryz.f33) (entry 44 gl0 args cs fp33.sites) (finK Tryz.prog fp33 cs.length [.tmp 2])) (callT ctx 33 args cs) :=
  fun r hr => by rw [run33 h]; exact denK_over hcl hr
@[simp] theorem keepE34 : ctx.keep 34 = keep34 := rfl
@[simp] theorem ghE34 : ctx.gh 34 = fun _ => [] := rfl
@[simp] theorem mdE34 : ctx.md 34 = md34 := rfl
@[simp] theorem fpE34 : ctx.fp 34 = fp34 := rfl
@[simp] theorem flE34 : ctx.fl 34 = fun _ => [] := rfl
@[simp] theorem odE34 : ctx.od 34 = od34 := rfl
theorem run34 {args : List AV} {cs : List Cont} (h : callOk 23 fp34 args cs = true) : callT ctx 34 args cs = denK ctx 34 (codeOf Tryz.f34) (entry 23 gl0 args cs fp34.sites) (finK Tryz.prog fp34 cs.length [.tmp 2]) :=
  call_run rfl rfl Tryz.func34 rfl (by kernel_rfl) Tryz.ntmps34 (by rw [Tryz.results34]) rfl rfl h
theorem ov34 {cl : CallFn} (hcl : ∀ g a c r, cl g a c = some r → callT ctx g a c = some r) {args : List AV} {cs : List Cont} (h : callOk 23 fp34 args cs = true) : Le (denK (ctx.over cl) 34 (codeOf Tryz.f34) (entry 23 gl0 args cs fp34.sites) (finK Tryz.prog fp34 cs.length [.tmp 2])) (callT ctx 34 args cs) :=
  fun r hr => by rw [run34 h]; exact denK_over hcl hr
@[simp] theorem keepE35 : ctx.keep 35 = keep35 := rfl
@[simp] theorem ghE35 : ctx.gh 35 = fun _ => [] := rfl
@[simp] theorem mdE35 : ctx.md 35 = md35 := rfl
@[simp] theorem fpE35 : ctx.fp 35 = fp35 := rfl
@[simp] theorem flE35 : ctx.fl 35 = fun _ => [] := rfl
@[simp] theorem odE35 : ctx.od 35 = od35 := rfl
theorem run35 {args : List AV} {cs : List Cont} (h : callOk 33 fp35 args cs = true) : callT ctx 35 args cs = denK ctx 35 (codeOf Tryz.f35) (entry 33 gl0 args cs fp35.sites) (finK Tryz.prog fp35 cs.length [.tmp 2]) :=
  call_run rfl rfl Tryz.func35 rfl (by kernel_rfl) Tryz.ntmps35 (by rw [Tryz.results35]) rfl rfl h
theorem ov35 {cl : CallFn} (hcl : ∀ g a c r, cl g a c = some r → callT ctx g a c = some r) {args : List AV} {cs : List Cont} (h : callOk 33 fp35 args cs = true) : Le (denK (ctx.over cl) 35 (codeOf Tryz.f35) (entry 33 gl0 args cs fp35.sites) (finK Tryz.prog fp35 cs.length [.tmp 2])) (callT ctx 35 args cs) :=
  fun r hr => by rw [run35 h]; exact denK_over hcl hr
@[simp] theorem keepE36 : ctx.keep 36 = keep36 := rfl
@[simp] theorem ghE36 : ctx.gh 36 = fun _ => [] := rfl
@[simp] theorem mdE36 : ctx.md 36 = md36 := rfl
@[simp] theorem fpE36 : ctx.fp 36 = fp36 := rfl
@[simp] theorem flE36 : ctx.fl 36 = fun _ => [] := rfl
@[simp] theorem odE36 : ctx.od 36 = od36 := rfl
theorem run36 {args : List AV} {cs : List Cont} (h : callOk 66 fp36 args cs = true) : callT ctx 36 args cs = denK ctx 36 (codeOf Tryz.f36) (entry 66 gl0 args cs fp36.sites) (finK Tryz.prog fp36 cs.length [.tmp 8]) :=
  call_run rfl rfl Tryz.func36 rfl (by kernel_rfl) Tryz.ntmps36 (by rw [Tryz.results36]) rfl rfl h
theorem ov36 {cl : CallFn} (hcl : ∀ g a c r, cl g a c = some r → callT ctx g a c = some r) {args : List AV} {cs : List Cont} (h : callOk 66 fp36 args cs = true) : Le (denK (ctx.over cl) 36 (codeOf Tryz.f36) (entry 66 gl0 args cs fp36.sites) (finK Tryz.prog fp36 cs.length [.tmp 8])) (callT ctx 36 args cs) :=
  fun r hr => by rw [run36 h]; exact denK_over hcl hr
@[simp] theorem keepE37 : ctx.keep 37 = keep37 := rfl
@[simp] theorem ghE37 : ctx.gh 37 = fun _ => [] := rfl
@[simp] theorem mdE37 : ctx.md 37 = md37 := rfl
@[simp] theorem fpE37 : ctx.fp 37 = fp37 := rfl
@[simp] theorem flE37 : ctx.fl 37 = fun _ => [] := rfl
@[simp] theorem odE37 : ctx.od 37 = od37 := rfl
theorem run37 {args : List AV} {cs : List Cont} (h : callOk 28 fp37 args cs = true) : callT ctx 37 args cs = denK ctx 37 (codeOf Tryz.f37) (entry 28 gl0 args cs fp37.sites) (finK Tryz.prog fp37 cs.length [.tmp 2, .tmp 3]) :=
  call_run rfl rfl Tryz.func37 rfl (by kernel_rfl) Tryz.ntmps37 (by rw [Tryz.results37]) rfl rfl h
theorem ov37 {cl : CallFn} (hcl : ∀ g a c r, cl g a c = some r → callT ctx g a c = some r) {args : List AV} {cs : List Cont} (h : callOk 28 fp37 args cs = true) : Le (denK (ctx.over cl) 37 (codeOf Tryz.f37) (entry 28 gl0 args cs fp37.sites) (finK Tryz.prog fp37 cs.length [.tmp 2, .tmp 3])) (callT ctx 37 args cs) :=
  fun r hr => by rw [run37 h]; exact denK_over hcl hr
@[simp] theorem keepE38 : ctx.keep 38 = keep38 := rfl
@[simp] theorem ghE38 : ctx.gh 38 = fun _ => [] := rfl
@[simp] theorem mdE38 : ctx.md 38 = md38 := rfl
@[simp] theorem fpE38 : ctx.fp 38 = fp38 := rfl
@[simp] theorem flE38 : ctx.fl 38 = fun _ => [] := rfl
@[simp] theorem odE38 : ctx.od 38 = od38 := rfl
theorem run38 {args : List AV} {cs : List Cont} (h : callOk 44 fp38 args cs = true) : callT ctx 38 args cs = denK ctx 38 (codeOf Tryz.f38) (entry 44 gl0 args cs fp38.sites) (finK Tryz.prog fp38 cs.length [.cell 2 35]) :=
  call_run rfl rfl Tryz.func38 rfl (by kernel_rfl) Tryz.ntmps38 (by rw [Tryz.results38]) rfl rfl h
theorem ov38 {cl : CallFn} (hcl : ∀ g a c r, cl g a c = some r → callT ctx g a c = some r) {args : List AV} {cs : List Cont} (h : callOk 44 fp38 args cs = true) : Le (denK (ctx.over cl) 38 (codeOf Tryz.f38) (entry 44 gl0 args cs fp38.sites) (finK Tryz.prog fp38 cs.length [.cell 2 35])) (callT ctx 38 args cs) :=
  fun r hr => by rw [run38 h]; exact denK_over hcl hr
@[simp] theorem keepE39 : ctx.keep 39 = keep39 := rfl
@[simp] theorem ghE39 : ctx.gh 39 = fun _ => [] := rfl
@[simp] theorem mdE39 : ctx.md 39 = md39 := rfl
@[simp] theorem fpE39 : ctx.fp 39 = fp39 := rfl
@[simp] theorem flE39 : ctx.fl 39 = fun _ => [] := rfl
@[simp] theorem odE39 : ctx.od 39 = od39 := rfl
theorem run39 {args : List AV} {cs : List Cont} (h : callOk 5 fp39 args cs = true) : callT ctx 39 args cs = denK ctx 39 (codeOf Tryz.f39) (entry 5 gl0 args cs fp39.sites) (finK Tryz.prog fp39 cs.length [.tmp 2]) :=
  call_run rfl rfl Tryz.func39 rfl (by kernel_rfl) Tryz.ntmps39 (by rw [Tryz.results39]) rfl rfl h
theorem ov39 {cl : CallFn} (hcl : ∀ g a c r, cl g a c = some r → callT ctx g a c = some r) {args : List AV} {cs : List Cont} (h : callOk 5 fp39 args cs = true) : Le (denK (ctx.over cl) 39 (codeOf Tryz.f39) (entry 5 gl0 args cs fp39.sites) (finK Tryz.prog fp39 cs.length [.tmp 2])) (callT ctx 39 args cs) :=
  fun r hr => by rw [run39 h]; exact denK_over hcl hr
@[simp] theorem keepE40 : ctx.keep 40 = keep40 := rfl
@[simp] theorem ghE40 : ctx.gh 40 = fun _ => [] := rfl
@[simp] theorem mdE40 : ctx.md 40 = md40 := rfl
@[simp] theorem fpE40 : ctx.fp 40 = fp40 := rfl
@[simp] theorem flE40 : ctx.fl 40 = fun _ => [] := rfl
@[simp] theorem odE40 : ctx.od 40 = od40 := rfl
theorem run40 {args : List AV} {cs : List Cont} (h : callOk 54 fp40 args cs = true) : callT ctx 40 args cs = denK ctx 40 (codeOf Tryz.f40) (entry 54 gl0 args cs fp40.sites) (finK Tryz.prog fp40 cs.length [.tmp 4]) :=
  call_run rfl rfl Tryz.func40 rfl (by kernel_rfl) Tryz.ntmps40 (by rw [Tryz.results40]) rfl rfl h
theorem ov40 {cl : CallFn} (hcl : ∀ g a c r, cl g a c = some r → callT ctx g a c = some r) {args : List AV} {cs : List Cont} (h : callOk 54 fp40 args cs = true) : Le (denK (ctx.over cl) 40 (codeOf Tryz.f40) (entry 54 gl0 args cs fp40.sites) (finK Tryz.prog fp40 cs.length [.tmp 4])) (callT ctx 40 args cs) :=
  fun r hr => by rw [run40 h]; exact denK_over hcl hr
@[simp] theorem keepE41 : ctx.keep 41 = keep41 := rfl
@[simp] theorem ghE41 : ctx.gh 41 = fun _ => [] := rfl
@[simp] theorem mdE41 : ctx.md 41 = md41 := rfl
@[simp] theorem fpE41 : ctx.fp 41 = fp41 := rfl
@[simp] theorem flE41 : ctx.fl 41 = fun _ => [] := rfl
@[simp] theorem odE41 : ctx.od 41 = od41 := rfl
theorem run41 {args : List AV} {cs : List Cont} (h : callOk 19 fp41 args cs = true) : callT ctx 41 args cs = denK ctx 41 (codeOf Tryz.f41) (entry 19 gl0 args cs fp41.sites) (finK Tryz.prog fp41 cs.length [.tmp 4]) :=
  call_run rfl rfl Tryz.func41 rfl (by kernel_rfl) Tryz.ntmps41 (by rw [Tryz.results41]) rfl rfl h
theorem ov41 {cl : CallFn} (hcl : ∀ g a c r, cl g a c = some r → callT ctx g a c = some r) {args : List AV} {cs : List Cont} (h : callOk 19 fp41 args cs = true) : Le (denK (ctx.over cl) 41 (codeOf Tryz.f41) (entry 19 gl0 args cs fp41.sites) (finK Tryz.prog fp41 cs.length [.tmp 4])) (callT ctx 41 args cs) :=
  fun r hr => by rw [run41 h]; exact denK_over hcl hr
@[simp] theorem keepE42 : ctx.keep 42 = keep42 := rfl
@[simp] theorem ghE42 : ctx.gh 42 = fun _ => [] := rfl
@[simp] theorem mdE42 : ctx.md 42 = md42 := rfl
@[simp] theorem fpE42 : ctx.fp 42 = fp42 := rfl
@[simp] theorem flE42 : ctx.fl 42 = fun _ => [] := rfl
@[simp] theorem odE42 : ctx.od 42 = od42 := rfl
theorem run42 {args : List AV} {cs : List Cont} (h : callOk 9 fp42 args cs = true) : callT ctx 42 args cs = denK ctx 42 (codeOf Tryz.f42) (entry 9 gl0 args cs fp42.sites) (finK Tryz.prog fp42 cs.length [.tmp 2]) :=
  call_run rfl rfl Tryz.func42 rfl (by kernel_rfl) Tryz.ntmps42 (by rw [Tryz.results42]) rfl rfl h
theorem ov42 {cl : CallFn} (hcl : ∀ g a c r, cl g a c = some r → callT ctx g a c = some r) {args : List AV} {cs : List Cont} (h : callOk 9 fp42 args cs = true) : Le (denK (ctx.over cl) 42 (codeOf Tryz.f42) (entry 9 gl0 args cs fp42.sites) (finK Tryz.prog fp42 cs.length [.tmp 2])) (callT ctx 42 args cs) :=
  fun r hr => by rw [run42 h]; exact denK_over hcl hr
@[simp] theorem keepE43 : ctx.keep 43 = keep43 := rfl
@[simp] theorem ghE43 : ctx.gh 43 = fun _ => [] := rfl
@[simp] theorem mdE43 : ctx.md 43 = md43 := rfl
@[simp] theorem fpE43 : ctx.fp 43 = fp43 := rfl
@[simp] theorem flE43 : ctx.fl 43 = fun _ => [] := rfl
@[simp] theorem odE43 : ctx.od 43 = od43 := rfl
theorem run43 {args : List AV} {cs : List Cont} (h : callOk 48 fp43 args cs = true) : callT ctx 43 args cs = denK ctx 43 (codeOf Tryz.f43) (entry 48 gl0 args cs fp43.sites) (finK Tryz.prog fp43 cs.length [.tmp 4]) :=
  call_run rfl rfl Tryz.func43 rfl (by kernel_rfl) Tryz.ntmps43 (by rw [Tryz.results43]) rfl rfl h
theorem ov43 {cl : CallFn} (hcl : ∀ g a c r, cl g a c = some r → callT ctx g a c = some r) {args : List AV} {cs : List Cont} (h : callOk 48 fp43 args cs = true) : Le (denK (ctx.over cl) 43 (codeOf Tryz.f43) (entry 48 gl0 args cs fp43.sites) (finK Tryz.prog fp43 cs.length [.tmp 4])) (callT ctx 43 args cs) :=
  fun r hr => by rw [run43 h]; exact denK_over hcl hr
@[simp] theorem keepE44 : ctx.keep 44 = keep44 := rfl
@[simp] theorem ghE44 : ctx.gh 44 = fun _ => [] := rfl
@[simp] theorem mdE44 : ctx.md 44 = md44 := rfl
@[simp] theorem fpE44 : ctx.fp 44 = fp44 := rfl
@[simp] theorem flE44 : ctx.fl 44 = fun _ => [] := rfl
@[simp] theorem odE44 : ctx.od 44 = od44 := rfl
theorem run44 {args : List AV} {cs : List Cont} (h : callOk 15 fp44 args cs = true) : callT ctx 44 args cs = denK ctx 44 (codeOf Tryz.f44) (entry 15 gl0 args cs fp44.sites) (finK Tryz.prog fp44 cs.length [.tmp 6]) :=
  call_run rfl rfl Tryz.func44 rfl (by kernel_rfl) Tryz.ntmps44 (by rw [Tryz.results44]) rfl rfl h
theorem ov44 {cl : CallFn} (hcl : ∀ g a c r, cl g a c = some r → callT ctx g a c = some r) {args : List AV} {cs : List Cont} (h : callOk 15 fp44 args cs = true) : Le (denK (ctx.over cl) 44 (codeOf Tryz.f44) (entry 15 gl0 args cs fp44.sites) (finK Tryz.prog fp44 cs.length [.tmp 6])) (callT ctx 44 args cs) :=
  fun r hr => by rw [run44 h]; exact denK_over hcl hr
@[simp] theorem keepE45 : ctx.keep 45 = keep45 := rfl
@[simp] theorem ghE45 : ctx.gh 45 = fun _ => [] := rfl
@[simp] theorem mdE45 : ctx.md 45 = md45 := rfl
@[simp] theorem fpE45 : ctx.fp 45 = fp45 := rfl
@[simp] theorem flE45 : ctx.fl 45 = fun _ => [] := rfl
@[simp] theorem odE45 : ctx.od 45 = od45 := rfl
theorem run45 {args : List AV} {cs : List Cont} (h : callOk 9 fp45 args cs = true) : callT ctx 45 args cs = denK ctx 45 (codeOf Tryz.f45) (entry 9 gl0 args cs fp45.sites) (finK Tryz.prog fp45 cs.length [.tmp 4]) :=
  call_run rfl rfl Tryz.func45 rfl (by kernel_rfl) Tryz.ntmps45 (by rw [Tryz.results45]) rfl rfl h
theorem ov45 {cl : CallFn} (hcl : ∀ g a c r, cl g a c = some r → callT ctx g a c = some r) {args : List AV} {cs : List Cont} (h : callOk 9 fp45 args cs = true) : Le (denK (ctx.over cl) 45 (codeOf Tryz.f45) (entry 9 gl0 args cs fp45.sites) (finK Tryz.prog fp45 cs.length [.tmp 4])) (callT ctx 45 args cs) :=
  fun r hr => by rw [run45 h]; exact denK_over hcl hr
@[simp] theorem keepE46 : ctx.keep 46 = keep46 := rfl
@[simp] theorem ghE46 : ctx.gh 46 = fun _ => [] := rfl
@[simp] theorem mdE46 : ctx.md 46 = md46 := rfl
@[simp] theorem fpE46 : ctx.fp 46 = fp46 := rfl
@[simp] theorem flE46 : ctx.fl 46 = fun _ => [] := rfl
@[simp] theorem odE46 : ctx.od 46 = od46 := rfl
theorem run46 {args : List AV} {cs : List Cont} (h : callOk 6 fp46 args cs = true) : callT ctx 46 args cs = denK ctx 46 (codeOf Tryz.f46) (entry 6 gl0 args cs fp46.sites) (finK Tryz.prog fp46 cs.length [.tmp 2]) :=
  call_run rfl rfl Tryz.func46 rfl (by kernel_rfl) Tryz.ntmps46 (by rw [Tryz.results46]) rfl rfl h
theorem ov46 {cl : CallFn} (hcl : ∀ g a c r, cl g a c = some r → callT ctx g a c = some r) {args : List AV} {cs : List Cont} (h : callOk 6 fp46 args cs = true) : Le (denK (ctx.over cl) 46 (codeOf Tryz.f46) (entry 6 gl0 args cs fp46.sites) (finK Tryz.prog fp46 cs.length [.tmp 2])) (callT ctx 46 args cs) :=
  fun r hr => by rw [run46 h]; exact denK_over hcl hr
@[simp] theorem keepE47 : ctx.keep 47 = keep47 := rfl
@[simp] theorem ghE47 : ctx.gh 47 = fun _ => [] := rfl
@[simp] theorem mdE47 : ctx.md 47 = md47 := rfl
@[simp] theorem fpE47 : ctx.fp 47 = fp47 := rfl
@[simp] theorem flE47 : ctx.fl 47 = fun _ => [] := rfl
@[simp] theorem odE47 : ctx.od 47 = od47 := rfl
theorem run47 {args : List AV} {cs : List Cont} (h : callOk 8 fp47 args cs = true) : callT ctx 47 args cs = denK ctx 47 (codeOf Tryz.f47) (entry 8 gl0 args cs fp47.sites) (finK Tryz.prog fp47 cs.length [.tmp 4]) :=
  call_run rfl rfl Tryz.func47 rfl (by kernel_rfl) Tryz.ntmps47 (by rw [Tryz.results47]) rfl rfl h
theorem ov47 {cl : CallFn} (hcl : ∀ g a c r, cl g a c = some r → callT ctx g a c = some r) {args : List AV} {cs : List Cont} (h : callOk 8 fp47 args cs = true) : Le (denK (ctx.over cl) 47 (codeOf Tryz.f47) (entry 8 gl0 args cs fp47.sites) (finK Tryz.prog fp47 cs.length [.tmp 4])) (callT ctx 47 args cs) :=
  fun r hr => by rw [run47 h]; exact denK_over hcl hr
@[simp] theorem keepE48 : ctx.keep 48 = keep48 := rfl
@[simp] theorem ghE48 : ctx.gh 48 = fun _ => [] := rfl
@[simp] theorem mdE48 : ctx.md 48 = md48 := rfl
@[simp] theorem fpE48 : ctx.fp 48 = fp48 := rfl
@[simp] theorem flE48 : ctx.fl 48 = fun _ => [] := rfl
@[simp] theorem odE48 : ctx.od 48 = od48 := rfl
theorem run48 {args : List AV} {cs : List Cont} (h : callOk 9 fp48 args cs = true) : callT ctx 48 args cs = denK ctx 48 (codeOf Tryz.f48) (entry 9 gl0 args cs fp48.sites) (finK Tryz.prog fp48 cs.length [.tmp 4]) :=
  call_run rfl rfl Tryz.func48 rfl (by kernel_rfl) Tryz.ntmps48 (by rw [Tryz.results48]) rfl rfl h
theorem ov48 {cl : CallFn} (hcl : ∀ g a c r, cl g a c = some r → callT ctx g a c = some r) {args : List AV} {cs : List Cont} (h : callOk 9 fp48 args cs = true) : Le (denK (ctx.over cl) 48 (codeOf Tryz.f48) (entry 9 gl0 args cs fp48.sites) (finK Tryz.prog fp48 cs.length [.tmp 4])) (callT ctx 48 args cs) :=
  fun r hr => by rw [run48 h]; exact denK_over hcl hr
@[simp] theorem keepE49 : ctx.keep 49 = keep49 := rfl
@[simp] theorem ghE49 : ctx.gh 49 = fun _ => [] := rfl
@[simp] theorem mdE49 : ctx.md 49 = md49 := rfl
@[simp] theorem fpE49 : ctx.fp 49 = fp49 := rfl
@[simp] theorem flE49 : ctx.fl 49 = fun _ => [] := rfl
@[simp] theorem odE49 : ctx.od 49 = od49 := rfl
theorem run49 {args : List AV} {cs : List Cont} (h : callOk 36 fp49 args cs = true) : callT ctx 49 args cs = denK ctx 49 (codeOf Tryz.f49) (entry 36 gl0 args cs fp49.sites) (finK Tryz.prog fp49 cs.length [.tmp 2]) :=
  call_run rfl rfl Tryz.func49 rfl (by kernel_rfl) Tryz.ntmps49 (by rw [Tryz.results49]) rfl rfl h
theorem ov49 {cl : CallFn} (hcl : ∀ g a c r, cl g a c = some r → callT ctx g a c = some r) {args : List AV} {cs : List Cont} (h : callOk 36 fp49 args cs = true) : Le (denK (ctx.over cl) 49 (codeOf Tryz.f49) (entry 36 gl0 args cs fp49.sites) (finK Tryz.prog fp49 cs.length [.tmp 2])) (callT ctx 49 args cs) :=
  fun r hr => by rw [run49 h]; exact denK_over hcl hr
@[simp] theorem keepE50 : ctx.keep 50 = keep50 := rfl
@[simp] theorem ghE50 : ctx.gh 50 = fun _ => [] := rfl
@[simp] theorem mdE50 : ctx.md 50 = md50 := rfl
@[simp] theorem fpE50 : ctx.fp 50 = fp50 := rfl
@[simp] theorem flE50 : ctx.fl 50 = fun _ => [] := rfl
@[simp] theorem odE50 : ctx.od 50 = od50 := rfl
theorem run50 {args : List AV} {cs : List Cont} (h : callOk 6 fp50 args cs = true) : callT ctx 50 args cs = denK ctx 50 (codeOf Tryz.f50) (entry 6 gl0 args cs fp50.sites) (finK Tryz.prog fp50 cs.length [.tmp 2]) :=
  call_run rfl rfl Tryz.func50 rfl (by kernel_rfl) Tryz.ntmps50 (by rw [Tryz.results50]) rfl rfl h
theorem ov50 {cl : CallFn} (hcl : ∀ g a c r, cl g a c = some r → callT ctx g a c = some r) {args : List AV} {cs : List Cont} (h : callOk 6 fp50 args cs = true) : Le (denK (ctx.over cl) 50 (codeOf Tryz.f50) (entry 6 gl0 args cs fp50.sites) (finK Tryz.prog fp50 cs.length [.tmp 2])) (callT ctx 50 args cs) :=
  fun r hr => by rw [run50 h]; exact denK_over hcl hr
@[simp] theorem keepE51 : ctx.keep 51 = keep51 := rfl
@[simp] theorem ghE51 : ctx.gh 51 = fun _ => [] := rfl
@[simp] theorem mdE51 : ctx.md 51 = md51 := rfl
@[simp] theorem fpE51 : ctx.fp 51 = fp51 := rfl
@[simp] theorem flE51 : ctx.fl 51 = fun _ => [] := rfl
@[simp] theorem odE51 : ctx.od 51 = od51 := rfl
theorem run51 {args : List AV} {cs : List Cont} (h : callOk 11 fp51 args cs = true) : callT ctx 51 args cs = denK ctx 51 (codeOf Tryz.f51) (entry 11 gl0 args cs fp51.sites) (finK Tryz.prog fp51 cs.length [.tmp 2]) :=
  call_run rfl rfl Tryz.func51 rfl (by kernel_rfl) Tryz.ntmps51 (by rw [Tryz.results51]) rfl rfl h
theorem ov51 {cl : CallFn} (hcl : ∀ g a c r, cl g a c = some r → callT ctx g a c = some r) {args : List AV} {cs : List Cont} (h : callOk 11 fp51 args cs = true) : Le (denK (ctx.over cl) 51 (codeOf Tryz.f51) (entry 11 gl0 args cs fp51.sites) (finK Tryz.prog fp51 cs.length [.tmp 2])) (callT ctx 51 args cs) :=
  fun r hr => by rw [run51 h]; exact denK_over hcl hr
@[simp] theorem keepE52 : ctx.keep 52 = keep52 := rfl
@[simp] theorem ghE52 : ctx.gh 52 = fun _ => [] := rfl
@[simp] theorem mdE52 : ctx.md 52 = md52 := rfl
@[simp] theorem fpE52 : ctx.fp 52 = fp52 := rfl
@[simp] theorem flE52 : ctx.fl 52 = fun _ => [] := rfl
@[simp] theorem odE52 : ctx.od 52 = od52 := rfl
theorem run52 {args : List AV} {cs : List Cont} (h : callOk 63 fp52 args cs = true) : callT ctx 52 args cs = denK ctx 52 (codeOf Tryz.f52) (entry 63 gl0 args cs fp52.sites) (finK Tryz.prog fp52 cs.length [.tmp 2]) :=
  call_run rfl rfl Tryz.func52 rfl (by kernel_rfl) Tryz.ntmps52 (by rw [Tryz.results52]) rfl rfl h
theorem ov52 {cl : CallFn} (hcl : ∀ g a c r, cl g a c = some r → callT ctx g a c = some r) {args : List AV} {cs : List Cont} (h : callOk 63 fp52 args cs = true) : Le (denK (ctx.over cl) 52 (codeOf Tryz.f52) (entry 63 gl0 args cs fp52.sites) (finK Tryz.prog fp52 cs.length [.tmp 2])) (callT ctx 52 args cs) :=
  fun r hr => by rw [run52 h]; exact denK_over hcl hr
@[simp] theorem keepE53 : ctx.keep 53 = keep53 := rfl
@[simp] theorem ghE53 : ctx.gh 53 = fun _ => [] := rfl
@[simp] theorem mdE53 : ctx.md 53 = md53 := rfl
@[simp] theorem fpE53 : ctx.fp 53 = fp53 := rfl
@[simp] theorem flE53 : ctx.fl 53 = fun _ => [] := rfl
@[simp] theorem odE53 : ctx.od 53 = od53 := rfl
theorem run53 {args : List AV} {cs : List Cont} (h : callOk 50 fp53 args cs = true) : callT ctx 53 args cs = denK ctx 53 (codeOf Tryz.f53) (entry 50 gl0 args cs fp53.sites) (finK Tryz.prog fp53 cs.length [.tmp 4]) :=
  call_run rfl rfl Tryz.func53 rfl (by kernel_rfl) Tryz.ntmps53 (by rw [Tryz.results53]) rfl rfl h
theorem ov53 {cl : CallFn} (hcl : ∀ g a c r, cl g a c = some r → callT ctx g a c = some r) {args : List AV} {cs : List Cont} (h : callOk 50 fp53 args cs = true) : Le (denK (ctx.over cl) 53 (codeOf Tryz.f53) (entry 50 gl0 args cs fp53.sites) (finK Tryz.prog fp53 cs.length [.tmp 4])) (callT ctx 53 args cs) :=
  fun r hr => by rw [run53 h]; exact denK_over hcl hr
@[simp] theorem keepE54 : ctx.keep 54 = keep54 := rfl
@[simp] theorem ghE54 : ctx.gh 54 = fun _ => [] := rfl
@[simp] theorem mdE54 : ctx.md 54 = md54 := rfl
@[simp] theorem fpE54 : ctx.fp 54 = fp54 := rfl
@[simp] theorem flE54 : ctx.fl 54 = fun _ => [] := rfl
@[simp] theorem odE54 : ctx.od 54 = od54 := rfl
theorem run54 {args : List AV} {cs : List Cont} (h : callOk 34 fp54 args cs = true) : callT ctx 54 args cs = denK ctx 54 (codeOf Tryz.f54) (entry 34 gl0 args cs fp54.sites) (finK Tryz.prog fp54 cs.length [.tmp 4]) :=
  call_run rfl rfl Tryz.func54 rfl (by kernel_rfl) Tryz.ntmps54 (by rw [Tryz.results54]) rfl rfl h
theorem ov54 {cl : CallFn} (hcl : ∀ g a c r, cl g a c = some r → callT ctx g a c = some r) {args : List AV} {cs : List Cont} (h : callOk 34 fp54 args cs = true) : Le (denK (ctx.over cl) 54 (codeOf Tryz.f54) (entry 34 gl0 args cs fp54.sites) (finK Tryz.prog fp54 cs.length [.tmp 4])) (callT ctx 54 args cs) :=
  fun r hr => by rw [run54 h]; exact denK_over hcl hr
@[simp] theorem keepE55 : ctx.keep 55 = keep55 := rfl
@[simp] theorem ghE55 : ctx.gh 55 = fun _ => [] := rfl
@[simp] theorem mdE55 : ctx.md 55 = md55 := rfl
@[simp] theorem fpE55 : ctx.fp 55 = fp55 := rfl
@[simp] theorem flE55 : ctx.fl 55 = fun _ => [] := rfl
@[simp] theorem odE55 : ctx.od 55 = od55 := rfl
theorem run55 {args : List AV} {cs : List Cont} (h : callOk 8 fp55 args cs = true) : callT ctx 55 args cs = denK ctx 55 (codeOf Tryz.f55) (entry 8 gl0 args cs fp55.sites) (finK Tryz.prog fp55 cs.length [.tmp 4]) :=
  call_run rfl rfl Tryz.func55 rfl (by kernel_rfl) Tryz.ntmps55 (by rw [Tryz.results55]) rfl rfl h
theorem ov55 {cl : CallFn} (hcl : ∀ g a c r, cl g a c = some r → callT ctx g a c = some r) {args : List AV} {cs : List Cont} (h : callOk 8 fp55 args cs = true) : Le (denK (ctx.over cl) 55 (codeOf Tryz.f55) (entry 8 gl0 args cs fp55.sites) (finK Tryz.prog fp55 cs.length [.tmp 4])) (callT ctx 55 args cs) :=
  fun r hr => by rw [run55 h]; exact denK_over hcl hr
@[simp] theorem keepE56 : ctx.keep 56 = keep56 := rfl
@[simp] theorem ghE56 : ctx.gh 56 = fun _ => [] := rfl
@[simp] theorem mdE56 : ctx.md 56 = md56 := rfl
@[simp] theorem fpE56 : ctx.fp 56 = fp56 := rfl
@[simp] theorem flE56 : ctx.fl 56 = fun _ => [] := rfl
@[simp] theorem odE56 : ctx.od 56 = od56 := rfl
theorem run56 {args : List AV} {cs : List Cont} (h : callOk 20 fp56 args cs = true) : callT ctx 56 args cs = denK ctx 56 (codeOf Tryz.f56) (entry 20 gl0 args cs fp56.sites) (finK Tryz.prog fp56 cs.length [.tmp 2, .tmp 3]) :=
  call_run rfl rfl Tryz.func56 rfl (by kernel_rfl) Tryz.ntmps56 (by rw [Tryz.results56]) rfl rfl h
theorem ov56 {cl : CallFn} (hcl : ∀ g a c r, cl g a c = some r → callT ctx g a c = some r) {args : List AV} {cs : List Cont} (h : callOk 20 fp56 args cs = true) : Le (denK (ctx.over cl) 56 (codeOf Tryz.f56) (entry 20 gl0 args cs fp56.sites) (finK Tryz.prog fp56 cs.length [.tmp 2, .tmp 3])) (callT ctx 56 args cs) :=
  fun r hr => by rw [run56 h]; exact denK_over hcl hr
@[simp] theorem keepE57 : ctx.keep 57 = keep57 := rfl
@[simp] theorem ghE57 : ctx.gh 57 = fun _ => [] := rfl
@[simp] theorem mdE57 : ctx.md 57 = md57 := rfl
@[simp] theorem fpE57 : ctx.fp 57 = fp57 := rfl
@[simp] theorem flE57 : ctx.fl 57 = fun _ => [] := rfl
@[simp] theorem odE57 : ctx.od 57 = od57 := rfl
theorem run57 {args : List AV} {cs : List Cont} (h : callOk 6 fp57 args cs = true) : callT ctx 57 args cs = denK ctx 57 (codeOf Tryz.f57) (entry 6 gl0 args cs fp57.sites) (finK Tryz.prog fp57 cs.length [.tmp 2]) :=
  call_run rfl rfl Tryz.func57 rfl (by kernel_rfl) Tryz.ntmps57 (by rw [Tryz.results57]) rfl rfl h
theorem ov57 {cl : CallFn} (hcl : ∀ g a c r, cl g a c = some r → callT ctx g a c = some r) {args : List AV} {cs : List Cont} (h : callOk 6 fp57 args cs = true) : Le (denK (ctx.over cl) 57 (codeOf Tryz.f57) (entry 6 gl0 args cs fp57.sites) (finK Tryz.prog fp57 cs.length [.tmp 2])) (callT ctx 57 args cs) :=
  fun r hr => by rw [run57 h]; exact denK_over hcl hr
@[simp] theorem keepE58 : ctx.keep 58 = keep58 := rfl
@[simp] theorem ghE58 : ctx.gh 58 = fun _ => [] := rfl
@[simp] theorem mdE58 : ctx.md 58 = md58 := rfl
@[simp] theorem fpE58 : ctx.fp 58 = fp58 := rfl
@[simp] theorem flE58 : ctx.fl 58 = fun _ => [] := rfl
@[simp] theorem odE58 : ctx.od 58 = od58 := rfl
theorem run58 {args : List AV} {cs : List Cont} (h : callOk 15 fp58 args cs = true) : callT ctx 58 args cs = denK ctx 58 (codeOf Tryz.f58) (entry 15 gl0 args cs fp58.sites) (finK Tryz.prog fp58 cs.length [.tmp 2]) :=
  call_run rfl rfl Tryz.func58 rfl (by kernel_rfl) Tryz.ntmps58 (by rw [Tryz.results58]) rfl rfl h
theorem ov58 {cl : CallFn} (hcl : ∀ g a c r, cl g a c = some r → callT ctx g a c = some r) {args : List AV} {cs : List Cont} (h : callOk 15 fp58 args cs = true) : Le (denK (ctx.over cl) 58 (codeOf Tryz.f58) (entry 15 gl0 args cs fp58.sites) (finK Tryz.prog fp58 cs.length [.tmp 2])) (callT ctx 58 args cs) :=
  fun r hr => by rw [run58 h]; exact denK_over hcl hr
@[simp] theorem keepE59 : ctx.keep 59 = keep59 := rfl
@[simp] theorem ghE59 : ctx.gh 59 = fun _ => [] := rfl
@[simp] theorem mdE59 : ctx.md 59 = md59 := rfl
@[simp] theorem fpE59 : ctx.fp 59 = fp59 := rfl
@[simp] theorem flE59 : ctx.fl 59 = fun _ => [] := rfl
@[simp] theorem odE59 : ctx.od 59 = od59 := rfl
theorem run59 {args : List AV} {cs : List Cont} (h : callOk 15 fp59 args cs = true) : callT ctx 59 args cs = denK ctx 59 (codeOf Tryz.f59) (entry 15 gl0 args cs fp59.sites) (finK Tryz.prog fp59 cs.length [.tmp 2]) :=
  call_run rfl rfl Tryz.func59 rfl (by kernel_rfl) Tryz.ntmps59 (by rw [Tryz.results59]) rfl rfl h
theorem ov59 {cl : CallFn} (hcl : ∀ g a c r, cl g a c = some r → callT ctx g a c = some r) {args : List AV} {cs : List Cont} (h : callOk 15 fp59 args cs = true) : Le (denK (ctx.over cl) 59 (codeOf Tryz.f59) (entry 15 gl0 args cs fp59.sites) (finK Tryz.prog fp59 cs.length [.tmp 2])) (callT ctx 59 args cs) :=
  fun r hr => by rw [run59 h]; exact denK_over hcl hr
@[simp] theorem keepE60 : ctx.keep 60 = keep60 := rfl
@[simp] theorem ghE60 : ctx.gh 60 = fun _ => [] := rfl
@[simp] theorem mdE60 : ctx.md 60 = md60 := rfl
@[simp] theorem fpE60 : ctx.fp 60 = fp60 := rfl
@[simp] theorem flE60 : ctx.fl 60 = fun _ => [] := rfl
@[simp] theorem odE60 : ctx.od 60 = od60 := rfl
theorem run60 {args : List AV} {cs : List Cont} (h : callOk 167 fp60 args cs = true) : callT ctx 60 args cs = denK ctx 60 (codeOf Tryz.f60) (entry 167 gl0 args cs fp60.sites) (finK Tryz.prog fp60 cs.length []) :=
  call_run rfl rfl Tryz.func60 rfl (by kernel_rfl) Tryz.ntmps60 (by rw [Tryz.results60]) rfl rfl h
theorem ov60 {cl : CallFn} (hcl : ∀ g a c r, cl g a c = some r → callT ctx g a c = some r) {args : List AV} {cs : List Cont} (h : callOk 167 fp60 args cs = true) : Le (denK (ctx.over cl) 60 (codeOf Tryz.f60) (entry 167 gl0 args cs fp60.sites) (finK Tryz.prog fp60 cs.length [])) (callT ctx 60 args cs) :=
  fun r hr => by rw [run60 h]; exact denK_over hcl hr
@[simp] theorem keepE61 : ctx.keep 61 = keep61 := rfl
@[simp] theorem ghE61 : ctx.gh 61 = fun _ => [] := rfl
@[simp] theorem mdE61 : ctx.md 61 = md61 := rfl
@[simp] theorem fpE61 : ctx.fp 61 = fp61 := rfl
@[simp] theorem flE61 : ctx.fl 61 = fun _ => [] := rfl
@[simp] theorem odE61 : ctx.od 61 = od61 := rfl
theorem run61 {args : List AV} {cs : List Cont} (h : callOk 102 fp61 args cs = true) : callT ctx 61 args cs = denK ctx 61 (codeOf Tryz.f61) (entry 102 gl0 args cs fp61.sites) (finK Tryz.prog fp61 cs.length [.tmp 10, .tmp 11]) :=
  call_run rfl rfl Tryz.func61 rfl (by kernel_rfl) Tryz.ntmps61 (by rw [Tryz.results61]) rfl rfl h
theorem ov61 {cl : CallFn} (hcl : ∀ g a c r, cl g a c = some r → callT ctx g a c = some r) {args : List AV} {cs : List Cont} (h : callOk 102 fp61 args cs = true) : Le (denK (ctx.over cl) 61 (codeOf Tryz.f61) (entry 102 gl0 args cs fp61.sites) (finK Tryz.prog fp61 cs.length [.tmp 10, .tmp 11])) (callT ctx 61 args cs) :=
  fun r hr => by rw [run61 h]; exact denK_over hcl hr
@[simp] theorem keepE62 : ctx.keep 62 = keep62 := rfl
@[simp] theorem ghE62 : ctx.gh 62 = fun _ => [] := rfl
@[simp] theorem mdE62 : ctx.md 62 = md62 := rfl
@[simp] theorem fpE62 : ctx.fp 62 = fp62 := rfl
@[simp] theorem flE62 : ctx.fl 62 = fun _ => [] := rfl
@[simp] theorem odE62 : ctx.od 62 = od62 := rfl
theorem run62 {args : List AV} {cs : List Cont} (h : callOk 30 fp62 args cs = true) : callT ctx 62 args cs = denK ctx 62 (codeOf Tryz.f62) (entry 30 gl0 args cs fp62.sites) (finK Tryz.prog fp62 cs.length [.tmp 4, .tmp 5]) :=
  call_run rfl rfl Tryz.func62 rfl (by kernel_rfl) Tryz.ntmps62 (by rw [Tryz.results62]) rfl rfl h
theorem ov62 {cl : CallFn} (hcl : ∀ g a c r, cl g a c = some r → callT ctx g a c = some r) {args : List AV} {cs : List Cont} (h : callOk 30 fp62 args cs = true) : Le (denK (ctx.over cl) 62 (codeOf Tryz.f62) (entry 30 gl0 args cs fp62.sites) (finK Tryz.prog fp62 cs.length [.tmp 4, .tmp 5])) (callT ctx 62 args cs) :=
  fun r hr => by rw [run62 h]; exact denK_over hcl hr
@[simp] theorem keepE63 : ctx.keep 63 = keep63 := rfl
@[simp] theorem ghE63 : ctx.gh 63 = fun _ => [] := rfl
@[simp] theorem mdE63 : ctx.md 63 = md63 := rfl
@[simp] theorem fpE63 : ctx.fp 63 = fp63 := rfl
@[simp] theorem flE63 : ctx.fl 63 = fun _ => [] := rfl
@[simp] theorem odE63 : ctx.od 63 = od63 := rfl
theorem run63 {args : List AV} {cs : List Cont} (h : callOk 19 fp63 args cs = true) : callT ctx 63 args cs = denK ctx 63 (codeOf Tryz.f63) (entry 19 gl0 args cs fp63.sites) (finK Tryz.prog fp63 cs.length [.tmp 4]) :=
  call_run rfl rfl Tryz.func63 rfl (by kernel_rfl) Tryz.ntmps63 (by rw [Tryz.results63]) rfl rfl h
theorem ov63 {cl : CallFn} (hcl : ∀ g a c r, cl g a c = some r → callT ctx g a c = some r) {args : List AV} {cs : List Cont} (h : callOk 19 fp63 args cs = true) : Le (denK (ctx.over cl) 63 (codeOf Tryz.f63) (entry 19 gl0 args cs fp63.sites) (finK Tryz.prog fp63 cs.length [.tmp 4])) (callT ctx 63 args cs) :=
  fun r hr => by rw [run63 h]; exact denK_over hcl hr
@[simp] theorem keepE64 : ctx.keep 64 = keep64 := rfl
@[simp] theorem ghE64 : ctx.gh 64 = fun _ => [] := rfl
@[simp] theorem mdE64 : ctx.md 64 = md64 := rfl
@[simp] theorem fpE64 : ctx.fp 64 = fp64 := rfl
@[simp] theorem flE64 : ctx.fl 64 = fun _ => [] := rfl
@[simp] theorem odE64 : ctx.od 64 = od64 := rfl
theorem run64 {args : List AV} {cs : List Cont} (h : callOk 25 fp64 args cs = true) : callT ctx 64 args cs = denK ctx 64 (codeOf Tryz.f64) (entry 25 gl0 args cs fp64.sites) (finK Tryz.prog fp64 cs.length [.tmp 6]) :=
  call_run rfl rfl Tryz.func64 rfl (by kernel_rfl) Tryz.ntmps64 (by rw [Tryz.results64]) rfl rfl h
theorem ov64 {cl : CallFn} (hcl : ∀ g a c r, cl g a c = some r → callT ctx g a c = some r) {args : List AV} {cs : List Cont} (h : callOk 25 fp64 args cs = true) : Le (denK (ctx.over cl) 64 (codeOf Tryz.f64) (entry 25 gl0 args cs fp64.sites) (finK Tryz.prog fp64 cs.length [.tmp 6])) (callT ctx 64 args cs) :=
  fun r hr => by rw [run64 h]; exact denK_over hcl hr
@[simp] theorem keepE65 : ctx.keep 65 = keep65 := rfl
@[simp] theorem ghE65 : ctx.gh 65 = fun _ => [] := rfl
@[simp] theorem mdE65 : ctx.md 65 = md65 := rfl
@[simp] theorem fpE65 : ctx.fp 65 = fp65 := rfl
@[simp] theorem flE65 : ctx.fl 65 = fun _ => [] := rfl
@[simp] theorem odE65 : ctx.od 65 = od65 := rfl
theorem run65 {args : List AV} {cs : List Cont} (h : callOk 19 fp65 args cs = true) : callT ctx 65 args cs = denK ctx 65 (codeOf Tryz.f65) (entry 19 gl0 args cs fp65.sites) (finK Tryz.prog fp65 cs.length [.tmp 4]) :=
  call_run rfl rfl Tryz.func65 rfl (by kernel_rfl) Tryz.ntmps65 (by rw [Tryz.results65]) rfl rfl h
theorem ov65 {cl : CallFn} (hcl : ∀ g a c r, cl g a c = some r → callT ctx g a c = some r) {args : List AV} {cs : List Cont} (h : callOk 19 fp65 args cs = true) : Le (denK (ctx.over cl) 65 (codeOf Tryz.f65) (entry 19 gl0 args cs fp65.sites) (finK Tryz.prog fp65 cs.length [.tmp 4])) (callT ctx 65 args cs) :=
  fun r hr => by rw [run65 h]; exact denK_over hcl hr
@[simp] theorem keepE66 : ctx.keep 66 = keep66 := rfl
@[simp] theorem ghE66 : ctx.gh 66 = gh66 := rfl
@[simp] theorem mdE66 : ctx.md 66 = md66 := rfl
@[simp] theorem fpE66 : ctx.fp 66 = fp66 := rfl
@[simp] theorem flE66 : ctx.fl 66 = fun _ => [] := rfl
@[simp] theorem odE66 : ctx.od 66 = od66 := rfl
theorem run66 {args : List AV} {cs : List Cont} (h : callOk 27 fp66 args cs = true) : callT ctx 66 args cs = denK ctx 66 (codeOf Tryz.f66) (entry 27 gl0 args cs fp66.sites) (finK Tryz.prog fp66 cs.length [.tmp 4]) :=
  call_run rfl rfl Tryz.func66 rfl (by kernel_rfl) Tryz.ntmps66 (by rw [Tryz.results66]) rfl rfl h
theorem ov66 {cl : CallFn} (hcl : ∀ g a c r, cl g a c = some r → callT ctx g a c = some r) {args : List AV} {cs : List Cont} (h : callOk 27 fp66 args cs = true) : Le (denK (ctx.over cl) 66 (codeOf Tryz.f66) (entry 27 gl0 args cs fp66.sites) (finK Tryz.prog fp66 cs.length [.tmp 4])) (callT ctx 66 args cs) :=
  fun r hr => by rw [run66 h]; exact denK_over hcl hr
@[simp] theorem keepE67 : ctx.keep 67 = keep67 := rfl
@[simp] theorem ghE67 : ctx.gh 67 = fun _ => [] := rfl
@[simp] theorem mdE67 : ctx.md 67 = md67 := rfl
@[simp] theorem fpE67 : ctx.fp 67 = fp67 := rfl
@[simp] theorem flE67 : ctx.fl 67 = fun _ => [] := rfl
@[simp] theorem odE67 : ctx.od 67 = od67 := rfl
theorem run67 {args : List AV} {cs : List Cont} (h : callOk 10 fp67 args cs = true) : callT ctx 67 args cs = denK ctx 67 (codeOf Tryz.f67) (entry 10 gl0 args cs fp67.sites) (finK Tryz.prog fp67 cs.length [.tmp 2]) :=
  call_run rfl rfl Tryz.func67 rfl (by kernel_rfl) Tryz.ntmps67 (by rw [Tryz.results67]) rfl rfl h
theorem ov67 {cl : CallFn} (hcl : ∀ g a c r, cl g a c = some r → callT ctx g a c = some r) {args : List AV} {cs : List Cont} (h : callOk 10 fp67 args cs = true) : Le (denK (ctx.over cl) 67 (codeOf Tryz.f67) (entry 10 gl0 args cs fp67.sites) (finK Tryz.prog fp67 cs.length [.tmp 2])) (callT ctx 67 args cs) :=
  fun r hr => by rw [run67 h]; exact denK_over hcl hr
@[simp] theorem keepE68 : ctx.keep 68 = keep68 := rfl
@[simp] theorem ghE68 : ctx.gh 68 = fun _ => [] := rfl
@[simp] theorem mdE68 : ctx.md 68 = md68 := rfl
@[simp] theorem fpE68 : ctx.fp 68 = fp68 := rfl
@[simp] theorem flE68 : ctx.fl 68 = fun _ => [] := rfl
@[simp] theorem odE68 : ctx.od 68 = od68 := rfl
theorem run68 {args : List AV} {cs : List Cont} (h : callOk 19 fp68 args cs = true) : callT ctx 68 args cs = denK ctx 68 (codeOf Tryz.f68) (entry 19 gl0 args cs fp68.sites) (finK Tryz.prog fp68 cs.length [.tmp 2, .tmp 3]) :=
  call_run rfl rfl Tryz.func68 rfl (by kernel_rfl) Tryz.ntmps68 (by rw [Tryz.results68]) rfl rfl h
theorem ov68 {cl : CallFn} (hcl : ∀ g a c r, cl g a c = some r → callT ctx g a c = some r) {args : List AV} {cs : List Cont} (h : callOk 19 fp68 args cs = true) : Le (denK (ctx.over cl) 68 (codeOf Tryz.f68) (entry 19 gl0 args cs fp68.sites) (finK Tryz.prog fp68 cs.length [.tmp 2, .tmp 3])) (callT ctx 68 args cs) :=
  fun r hr => by rw [run68 h]; exact denK_over hcl hr
@[simp] theorem keepE70 : ctx.keep 70 = keep70 := rfl
@[simp] theorem ghE70 : ctx.gh 70 = fun _ => [] := rfl
@[simp] theorem mdE70 : ctx.md 70 = md70 := rfl
@[simp] theorem fpE70 : ctx.fp 70 = fp70 := rfl
@[simp] theorem flE70 : ctx.fl 70 = fun _ => [] := rfl
@[simp] theorem odE70 : ctx.od 70 = od70 := rfl
theorem run70 {args : List AV} {cs : List Cont} (h : callOk 143 fp70 args cs = true) : callT ctx 70 args cs = denK ctx 70 (codeOf Tryz.f70) (entry 143 gl0 args cs fp70.sites) (finK Tryz.prog fp70 cs.length [.tmp 4]) :=
  call_run rfl rfl Tryz.func70 rfl (by kernel_rfl) Tryz.ntmps70 (by rw [Tryz.results70]) rfl rfl h
theorem ov70 {cl : CallFn} (hcl : ∀ g a c r, cl g a c = some r → callT ctx g a c = some r) {args : List AV} {cs : List Cont} (h : callOk 143 fp70 args cs = true) : Le (denK (ctx.over cl) 70 (codeOf Tryz.f70) (entry 143 gl0 args cs fp70.sites) (finK Tryz.prog fp70 cs.length [.tmp 4])) (callT ctx 70 args cs) :=
  fun r hr => by rw [run70 h]; exact denK_over hcl hr
@[simp] theorem keepE71 : ctx.keep 71 = keep71 := rfl
@[simp] theorem ghE71 : ctx.gh 71 = fun _ => [] := rfl
@[simp] theorem mdE71 : ctx.md 71 = md71 := rfl
@[simp] theorem fpE71 : ctx.fp 71 = fp71 := rfl
@[simp] theorem flE71 : ctx.fl 71 = fun _ => [] := rfl
@[simp] theorem odE71 : ctx.od 71 = od71 := rfl
@[simp] theorem orc_run71 {args : List AV} {cs : List Cont} : callT ctx 71 args cs = orcAns (piO) args cs := callT_orc rfl rfl
@[simp] theorem keepE72 : ctx.keep 72 = keep72 := rfl
@[simp] theorem ghE72 : ctx.gh 72 = fun _ => [] := rfl
@[simp] theorem mdE72 : ctx.md 72 = md72 := rfl
@[simp] theorem fpE72 : ctx.fp 72 = fp72 := rfl
@[simp] theorem flE72 : ctx.fl 72 = fun _ => [] := rfl
@[simp] theorem odE72 : ctx.od 72 = od72 := rfl
theorem run72 {args : List AV} {cs : List Cont} (h : callOk 6 fp72 args cs = true) : callT ctx 72 args cs = denK ctx 72 (codeOf Tryz.f72) (entry 6 gl0 args cs fp72.sites) (finK Tryz.prog fp72 cs.length [.tmp 2]) :=
  call_run rfl rfl Tryz.func72 rfl (by kernel_rfl) Tryz.ntmps72 (by rw [Tryz.results72]) rfl rfl h
theorem ov72 {cl : CallFn} (hcl : ∀ g a c r, cl g a c = some r → callT ctx g a c = some r) {args : List AV} {cs : List Cont} (h : callOk 6 fp72 args cs = true) : Le (denK (ctx.over cl) 72 (codeOf Tryz.f72) (entry 6 gl0 args cs fp72.sites) (finK Tryz.prog fp72 cs.length [.tmp 2])) (callT ctx 72 args cs) :=
  fun r hr => by rw [run72 h]; exact denK_over hcl hr
@[simp] theorem keepE73 : ctx.keep 73 = keep73 := rfl
@[simp] theorem ghE73 : ctx.gh 73 = fun _ => [] := rfl
@[simp] theorem mdE73 : ctx.md 73 = md73 := rfl
@[simp] theorem fpE73 : ctx.fp 73 = fp73 := rfl
@[simp] theorem flE73 : ctx.fl 73 = fun _ => [] := rfl
@[simp] theorem odE73 : ctx.od 73 = od73 := rfl
theorem run73 {args : List AV} {cs : List Cont} (h : callOk 25 fp73 args cs = true) : callT ctx 73 args cs = denK ctx 73 (codeOf Tryz.f73) (entry 25 gl0 args cs fp73.sites) (finK Tryz.prog fp73 cs.length [.tmp 2]) :=
  call_run rfl rfl Tryz.func73 rfl (by kernel_rfl) Tryz.ntmps73 (by rw [Tryz.results73]) rfl rfl h
theorem ov73 {cl : CallFn} (hcl : ∀ g a c r, cl g a c = some r → callT ctx g a c = some r) {args : List AV} {cs : List Cont} (h : callOk 25 fp73 args cs = true) : Le (denK (ctx.over cl) 73 (codeOf Tryz.f73) (entry 25 gl0 args cs fp73.sites) (finK Tryz.prog fp73 cs.length [.tmp 2])) (callT ctx 73 args cs) :=
  fun r hr => by rw [run73 h]; exact denK_over hcl hr
@[simp] theorem keepE74 : ctx.keep 74 = keep74 := rfl
@[simp] theorem ghE74 : ctx.gh 74 = fun _ => [] := rfl
@[simp] theorem mdE74 : ctx.md 74 = md74 := rfl
@[simp] theorem fpE74 : ctx.fp 74 = fp74 := rfl
@[simp] theorem flE74 : ctx.fl 74 = fun _ => [] := rfl
@[simp] theorem odE74 : ctx.od 74 = od74 := rfl
theorem run74 {args : List AV} {cs : List Cont} (h : callOk 4 fp74 args cs = true) : callT ctx 74 args cs = denK ctx 74 (codeOf Tryz.f74) (entry 4 gl0 args cs fp74.sites) (finK Tryz.prog fp74 cs.length [.tmp 2]) :=
  call_run rfl rfl Tryz.func74 rfl (by kernel_rfl) Tryz.ntmps74 (by rw [Tryz.results74]) rfl rfl h
theorem ov74 {cl : CallFn} (hcl : ∀ g a c r, cl g a c = some r → callT ctx g a c = some r) {args : List AV} {cs : List Cont} (h : callOk 4 fp74 args cs = true) : Le (denK (ctx.over cl) 74 (codeOf Tryz.f74) (entry 4 gl0 args cs fp74.sites) (finK Tryz.prog fp74 cs.length [.tmp 2])) (callT ctx 74 args cs) :=
  fun r hr => by rw [run74 h]; exact denK_over hcl hr
@[simp] theorem keepE75 : ctx.keep 75 = keep75 := rfl
@[simp] theorem ghE75 : ctx.gh 75 = fun _ => [] := rfl
@[simp] theorem mdE75 : ctx.md 75 = md75 := rfl
@[simp] theorem fpE75 : ctx.fp 75 = fp75 := rfl
@[simp] theorem flE75 : ctx.fl 75 = fun _ => [] := rfl
@[simp] theorem odE75 : ctx.od 75 = od75 := rfl
theorem run75 {args : List AV} {cs : List Cont} (h : callOk 8 fp75 args cs = true) : callT ctx 75 args cs = denK ctx 75 (codeOf Tryz.f75) (entry 8 gl0 args cs fp75.sites) (finK Tryz.prog fp75 cs.length [.tmp 2]) :=
  call_run rfl rfl Tryz.func75 rfl (by kernel_rfl) Tryz.ntmps75 (by rw [Tryz.results75]) rfl rfl h
theorem ov75 {cl : CallFn} (hcl : ∀ g a c r, cl g a c = some r → callT ctx g a c = some r) {args : List AV} {cs : List Cont} (h : callOk 8 fp75 args cs = true) : Le (denK (ctx.over cl) 75 (codeOf Tryz.f75) (entry 8 gl0 args cs fp75.sites) (finK Tryz.prog fp75 cs.length [.tmp 2])) (callT ctx 75 args cs) :=
  fun r hr => by rw [run75 h]; exact denK_over hcl hr
@[simp] theorem keepE76 : ctx.keep 76 = keep76 := rfl
@[simp] theorem ghE76 : ctx.gh 76 = fun _ => [] := rfl
@[simp] theorem mdE76 : ctx.md 76 = md76 := rfl
@[simp] theorem fpE76 : ctx.fp 76 = fp76 := rfl
@[simp] theorem flE76 : ctx.fl 76 = fun _ => [] := rfl
@[simp] theorem odE76 : ctx.od 76 = od76 := rfl
theorem run76 {args : List AV} {cs : List Cont} (h : callOk 8 fp76 args cs = true) : callT ctx 76 args cs = denK ctx 76 (codeOf Tryz.f76) (entry 8 gl0 args cs fp76.sites) (finK Tryz.prog fp76 cs.length [.tmp 2]) :=
  call_run rfl rfl Tryz.func76 rfl (by kernel_rfl) Tryz.ntmps76 (by rw [Tryz.results76]) rfl rfl h
theorem ov76 {cl : CallFn} (hcl : ∀ g a c r, cl g a c = some r → callT ctx g a c = some r) {args : List AV} {cs : List Cont} (h : callOk 8 fp76 args cs = true) : Le (denK (ctx.over cl) 76 (codeOf Tryz.f76) (entry 8 gl0 args cs fp76.sites) (finK Tryz.prog fp76 cs.length [.tmp 2])) (callT ctx 76 args cs) :=
  fun r hr => by rw [run76 h]; exact denK_over hcl hr
@[simp] theorem keepE77 : ctx.keep 77 = keep77 := rfl
@[simp] theorem ghE77 : ctx.gh 77 = fun _ => [] := rfl
@[simp] theorem mdE77 : ctx.md 77 = md77 := rfl
@[simp] theorem fpE77 : ctx.fp 77 = fp77 := rfl
@[simp] theorem flE77 : ctx.fl 77 = fun _ => [] := rfl
@[simp] theorem odE77 : ctx.od 77 = od77 := rfl
theorem run77 {args : List AV} {cs : List Cont} (h : callOk 17 fp77 args cs = true) : callT ctx 77 args cs = denK ctx 77 (codeOf Tryz.f77) (entry 17 gl0 args cs fp77.sites) (finK Tryz.prog fp77 cs.length [.tmp 4, .tmp 5]) :=
  call_run rfl rfl Tryz.func77 rfl (by kernel_rfl) Tryz.ntmps77 (by rw [Tryz.results77]) rfl rfl h
theorem ov77 {cl : CallFn} (hcl : ∀ g a c r, cl g a c = some r → callT ctx g a c = some r) {args : List AV} {cs : List Cont} (h : callOk 17 fp77 args cs = true) : Le (denK (ctx.over cl) 77 (codeOf Tryz.f77) (entry 17 gl0 args cs fp77.sites) (finK Tryz.prog fp77 cs.length [.tmp 4, .tmp 5])) (callT ctx 77 args cs) :=
  fun r hr => by rw [run77 h]; exact denK_over hcl hr
@[simp] theorem keepE78 : ctx.keep 78 = keep78 := rfl
@[simp] theorem ghE78 : ctx.gh 78 = fun _ => [] := rfl
@[simp] theorem mdE78 : ctx.md 78 = md78 := rfl
@[simp] theorem fpE78 : ctx.fp 78 = fp78 := rfl
@[simp] theorem flE78 : ctx.fl 78 = fun _ => [] := rfl
@[simp] theorem odE78 : ctx.od 78 = od78 := rfl
theorem run78 {args : List AV} {cs : List Cont} (h : callOk 51 fp78 args cs = true) : callT ctx 78 args cs = denK ctx 78 (codeOf Tryz.f78) (entry 51 gl0 args cs fp78.sites) (finK Tryz.prog fp78 cs.length [.tmp 4, .tmp 5]) :=
  call_run rfl rfl Tryz.func78 rfl (by kernel_rfl) Tryz.ntmps78 (by rw [Tryz.results78]) rfl rfl h
theorem ov78 {cl : CallFn} (hcl : ∀ g a c r, cl g a c = some r → callT ctx g a c = some r) {args : List AV} {cs : List Cont} (h : callOk 51 fp78 args cs = true) : Le (denK (ctx.over cl) 78 (codeOf Tryz.f78) (entry 51 gl0 args cs fp78.sites) (finK Tryz.prog fp78 cs.length [.tmp 4, .tmp 5])) (callT ctx 78 args cs) :=
  fun r hr => by rw [run78 h]; exact denK_over hcl hr
@[simp] theorem keepE79 : ctx.keep 79 = keep79 := rfl
@[simp] theorem ghE79 : ctx.gh 79 = fun _ => [] := rfl
@[simp] theorem mdE79 : ctx.md 79 = md79 := rfl
@[simp] theorem fpE79 : ctx.fp 79 = fp79 := rfl
@[simp] theorem flE79 : ctx.fl 79 = fun _ => [] := rfl
@[simp] theorem odE79 : ctx.od 79 = od79 := rfl
theorem run79 {args : List AV} {cs : List Cont} (h : callOk 6 fp79 args cs = true) : callT ctx 79 args cs = denK ctx 79 (codeOf Tryz.f79) (entry 6 gl0 args cs fp79.sites) (finK Tryz.prog fp79 cs.length [.tmp 2]) :=
  call_run rfl rfl Tryz.func79 rfl (by kernel_rfl) Tryz.ntmps79 (by rw [Tryz.results79]) rfl rfl h
theorem ov79 {cl : CallFn} (hcl : ∀ g a c r, cl g a c = some r → callT ctx g a c = some r) {args : List AV} {cs : List Cont} (h : callOk 6 fp79 args cs = true) : Le (denK (ctx.over cl) 79 (codeOf Tryz.f79) (entry 6 gl0 args cs fp79.sites) (finK Tryz.prog fp79 cs.length [.tmp 2])) (callT ctx 79 args cs) :=
  fun r hr => by rw [run79 h]; exact denK_over hcl hr
@[simp] theorem keepE80 : ctx.keep 80 = keep80 := rfl
@[simp] theorem ghE80 : ctx.gh 80 = fun _ => [] := rfl
@[simp] theorem mdE80 : ctx.md 80 = md80 := rfl
@[simp] theorem fpE80 : ctx.fp 80 = fp80 := rfl
@[simp] theorem flE80 : ctx.fl 80 = fun _ => [] := rfl
@[simp] theorem odE80 : ctx.od 80 = od80 := rfl
theorem run80 {args : List AV} {cs : List Cont} (h : callOk 6 fp80 args cs = true) : callT ctx 80 args cs = denK ctx 80 (codeOf Tryz.f80) (entry 6 gl0 args cs fp80.sites) (finK Tryz.prog fp80 cs.length [.tmp 2]) :=
  call_run rfl rfl Tryz.func80 rfl (by kernel_rfl) Tryz.ntmps80 (by rw [Tryz.results80]) rfl rfl h
theorem ov80 {cl : CallFn} (hcl : ∀ g a c r, cl g a c = some r → callT ctx g a c = some r) {args : List AV} {cs : List Cont} (h : callOk 6 fp80 args cs = true) : Le (denK (ctx.over cl) 80 (codeOf Tryz.f80) (entry 6 gl0 args cs fp80.sites) (finK Tryz.prog fp80 cs.length [.tmp 2])) (callT ctx 80 args cs) :=
  fun r hr => by rw [run80 h]; exact denK_over hcl hr
@[simp] theorem keepE81 : ctx.keep 81 = keep81 := rfl
@[simp] theorem ghE81 : ctx.gh 81 = fun _ => [] := rfl
@[simp] theorem mdE81 : ctx.md 81 = md81 := rfl
@[simp] theorem fpE81 : ctx.fp 81 = fp81 := rfl
@[simp] theorem flE81 : ctx.fl 81 = fun _ => [] := rfl
@[simp] theorem odE81 : ctx.od 81 = od81 := rfl
theorem run81 {args : List AV} {cs : List Cont} (h : callOk 18 fp81 args cs = true) : callT ctx 81 args cs = denK ctx 81 (codeOf Tryz.f81) (entry 18 gl0 args cs fp81.sites) (finK Tryz.prog fp81 cs.length [.tmp 6]) :=
  call_run rfl rfl Tryz.func81 rfl (by kernel_rfl) Tryz.ntmps81 (by rw [Tryz.results81]) rfl rfl h
theorem ov81 {cl : CallFn} (hcl : ∀ g a c r, cl g a c = some r → callT ctx g a c = some r) {args : List AV} {cs : List Cont} (h : callOk 18 fp81 args cs = true) : Le (denK (ctx.over cl) 81 (codeOf Tryz.f81) (entry 18 gl0 args cs fp81.sites) (finK Tryz.prog fp81 cs.length [.tmp 6])) (callT ctx 81 args cs) :=
  fun r hr => by rw [run81 h]; exact denK_over hcl hr
@[simp] theorem keepE82 : ctx.keep 82 = keep82 := rfl
@[simp] theorem ghE82 : ctx.gh 82 = fun _ => [] := rfl
@[simp] theorem mdE82 : ctx.md 82 = md82 := rfl
@[simp] theorem fpE82 : ctx.fp 82 = fp82 := rfl
@[simp] theorem flE82 : ctx.fl 82 = fun _ => [] := rfl
@[simp] theorem odE82 : ctx.od 82 = od82 := rfl
theorem run82 {args : List AV} {cs : List Cont} (h : callOk 117 fp82 args cs = true) : callT ctx 82 args cs = denK ctx 82 (codeOf Tryz.f82) (entry 117 gl0 args cs fp82.sites) (finK Tryz.prog fp82 cs.length [.tmp 2, .tmp 3]) :=
  call_run rfl rfl Tryz.func82 rfl (by kernel_rfl) Tryz.ntmps82 (by rw [Tryz.results82]) rfl rfl h
theorem ov82 {cl : CallFn} (hcl : ∀ g a c r, cl g a c = some r → callT ctx g a c = some r) {args : List AV} {cs : List Cont} (h : callOk 117 fp82 args cs = true) : Le (denK (ctx.over cl) 82 (codeOf Tryz.f82) (entry 117 gl0 args cs fp82.sites) (finK Tryz.prog fp82 cs.length [.tmp 2, .tmp 3])) (callT ctx 82 args cs) :=
  fun r hr => by rw [run82 h]; exact denK_over hcl hr
@[simp] theorem keepE83 : ctx.keep 83 = keep83 := rfl
@[simp] theorem ghE83 : ctx.gh 83 = fun _ => [] := rfl
@[simp] theorem mdE83 : ctx.md 83 = md83 := rfl
@[simp] theorem fpE83 : ctx.fp 83 = fp83 := rfl
@[simp] theorem flE83 : ctx.fl 83 = fun _ => [] := rfl
@[simp] theorem odE83 : ctx.od 83 = od83 := rfl
theorem run83 {args : List AV} {cs : List Cont} (h : callOk 8 fp83 args cs = true) : callT ctx 83 args cs = denK ctx 83 (codeOf Tryz.f83) (entry 8 gl0 args cs fp83.sites) (finK Tryz.prog fp83 cs.length [.tmp 4]) :=
  call_run rfl rfl Tryz.func83 rfl (by kernel_rfl) Tryz.ntmps83 (by rw [Tryz.results83]) rfl rfl h
theorem ov83 {cl : CallFn} (hcl : ∀ g a c r, cl g a c = some r → callT ctx g a c = some r) {args : List AV} {cs : List Cont} (h : callOk 8 fp83 args cs = true) : Le (denK (ctx.over cl) 83 (codeOf Tryz.f83) (entry 8 gl0 args cs fp83.sites) (finK Tryz.prog fp83 cs.length [.tmp 4])) (callT ctx 83 args cs) :=
  fun r hr => by rw [run83 h]; exact denK_over hcl hr
@[simp] theorem keepE85 : ctx.keep 85 = keep85 := rfl
@[simp] theorem ghE85 : ctx.gh 85 = fun _ => [] := rfl
@[simp] theorem mdE85 : ctx.md 85 = md85 := rfl
@[simp] theorem fpE85 : ctx.fp 85 = fp85 := rfl
@[simp] theorem flE85 : ctx.fl 85 = fun _ => [] := rfl
@[simp] theorem odE85 : ctx.od 85 = od85 := rfl
theorem run85 {args : List AV} {cs : List Cont} (h : callOk 6 fp85 args cs = true) : callT ctx 85 args cs = denK ctx 85 (codeOf Tryz.f85) (entry 6 gl0 args cs fp85.sites) (finK Tryz.prog fp85 cs.length [.tmp 2]) :=
  call_run rfl rfl Tryz.func85 rfl (by kernel_rfl) Tryz.ntmps85 (by rw [Tryz.results85]) rfl rfl h
theorem ov85 {cl : CallFn} (hcl : ∀ g a c r, cl g a c = some r → callT ctx g a c = some r) {args : List AV} {cs : List Cont} (h : callOk 6 fp85 args cs = true) : Le (denK (ctx.over cl) 85 (codeOf Tryz.f85) (entry 6 gl0 args cs fp85.sites) (finK Tryz.prog fp85 cs.length [.tmp 2])) (callT ctx 85 args cs) :=
  fun r hr => by rw [run85 h]; exact denK_over hcl hr
@[simp] theorem keepE86 : ctx.keep 86 = keep86 := rfl
@[simp] theorem ghE86 : ctx.gh 86 = fun _ => [] := rfl
@[simp] theorem mdE86 : ctx.md 86 = md86 := rfl
@[simp] theorem fpE86 : ctx.fp 86 = fp86 := rfl
@[simp] theorem flE86 : ctx.fl 86 = fun _ => [] := rfl
@[simp] theorem odE86 : ctx.od 86 = od86 := rfl
theorem run86 {args : List AV} {cs : List Cont} (h : callOk 81 fp86 args cs = true) : callT ctx 86 args cs = denK ctx 86 (codeOf Tryz.f86) (entry 81 gl0 args cs fp86.sites) (finK Tryz.prog fp86 cs.length [.tmp 4]) :=
  call_run rfl rfl Tryz.func86 rfl (by kernel_rfl) Tryz.ntmps86 (by rw [Tryz.results86]) rfl rfl h
theorem ov86 {cl : CallFn} (hcl : ∀ g a c r, cl g a c = some r → callT ctx g a c = some r) {args : List AV} {cs : List Cont} (h : callOk 81 fp86 args cs = true) : Le (denK (ctx.over cl) 86 (codeOf Tryz.f86) (entry 81 gl0 args cs fp86.sites) (finK Tryz.prog fp86 cs.length [.tmp 4])) (callT ctx 86 args cs) :=
  fun r hr => by rw [run86 h]; exact denK_over hcl hr
@[simp] theorem keepE87 : ctx.keep 87 = keep87 := rfl
@[simp] theorem ghE87 : ctx.gh 87 = fun _ => [] := rfl
@[simp] theorem mdE87 : ctx.md 87 = md87 := rfl
@[simp] theorem fpE87 : ctx.fp 87 = fp87 := rfl
@[simp] theorem flE87 : ctx.fl 87 = fun _ => [] := rfl
@[simp] theorem odE87 : ctx.od 87 = od87 := rfl
theorem run87 {args : List AV} {cs : List Cont} (h : callOk 73 fp87 args cs = true) : callT ctx 87 args cs = denK ctx 87 (codeOf Tryz.f87) (entry 73 gl0 args cs fp87.sites) (finK Tryz.prog fp87 cs.length [.tmp 6, .tmp 7]) :=
  call_run rfl rfl Tryz.func87 rfl (by kernel_rfl) Tryz.ntmps87 (by rw [Tryz.results87]) rfl rfl h
theorem ov87 {cl : CallFn} (hcl : ∀ g a c r, cl g a c = some r → callT ctx g a c = some r) {args : List AV} {cs : List Cont} (h : callOk 73 fp87 args cs = true) : Le (denK (ctx.over cl) 87 (codeOf Tryz.f87) (entry 73 gl0 args cs fp87.sites) (finK Tryz.prog fp87 cs.length [.tmp 6, .tmp 7])) (callT ctx 87 args cs) :=
  fun r hr => by rw [run87 h]; exact denK_over hcl hr
@[simp] theorem keepE88 : ctx.keep 88 = keep88 := rfl
@[simp] theorem ghE88 : ctx.gh 88 = fun _ => [] := rfl
@[simp] theorem mdE88 : ctx.md 88 = md88 := rfl
@[simp] theorem fpE88 : ctx.fp 88 = fp88 := rfl
@[simp] theorem flE88 : ctx.fl 88 = fun _ => [] := rfl
@[simp] theorem odE88 : ctx.od 88 = od88 := rfl
theorem run88 {args : List AV} {cs : List Cont} (h : callOk 43 fp88 args cs = true) : callT ctx 88 args cs = denK ctx 88 (codeOf Tryz.f88) (entry 43 gl0 args cs fp88.sites) (finK Tryz.prog fp88 cs.length [.tmp 10]) :=
  call_run rfl rfl Tryz.func88 rfl (by kernel_rfl) Tryz.ntmps88 (by rw [Tryz.results88]) rfl rfl h
theorem ov88 {cl : CallFn} (hcl : ∀ g a c r, cl g a c = some r → callT ctx g a c = some r) {args : List AV} {cs : List Cont} (h : callOk 43 fp88 args cs = true) : Le (denK (ctx.over cl) 88 (codeOf Tryz.f88) (entry 43 gl0 args cs fp88.sites) (finK Tryz.prog fp88 cs.length [.tmp 10])) (callT ctx 88 args cs) :=
  fun r hr => by rw [run88 h]; exact denK_over hcl hr
@[simp] theorem keepE89 : ctx.keep 89 = keep89 := rfl
@[simp] theorem ghE89 : ctx.gh 89 = fun _ => [] := rfl
@[simp] theorem mdE89 : ctx.md 89 = md89 := rfl
@[simp] theorem fpE89 : ctx.fp 89 = fp89 := rfl
@[simp] theorem flE89 : ctx.fl 89 = fun _ => [] := rfl
@[simp] theorem odE89 : ctx.od 89 = od89 := rfl
theorem run89 {args : List AV} {cs : List Cont} (h : callOk 14 fp89 args cs = true) : callT ctx 89 args cs = denK ctx 89 (codeOf Tryz.f89) (entry 14 gl0 args cs fp89.sites) (finK Tryz.prog fp89 cs.length [.tmp 2]) :=
  call_run rfl rfl Tryz.func89 rfl (by kernel_rfl) Tryz.ntmps89 (by rw [Tryz.results89]) rfl rfl h
theorem ov89 {cl : CallFn} (hcl : ∀ g a c r, cl g a c = some r → callT ctx g a c = some r) {args : List AV} {cs : List Cont} (h : callOk 14 fp89 args cs = true) : Le (denK (ctx.over cl) 89 (codeOf Tryz.f89) (entry 14 gl0 args cs fp89.sites) (finK Tryz.prog fp89 cs.length [.tmp 2])) (callT ctx 89 args cs) :=
  fun r hr => by rw [run89 h]; exact denK_over hcl hr
@[simp] theorem keepE90 : ctx.keep 90 = keep90 := rfl
@[simp] theorem ghE90 : ctx.gh 90 = fun _ => [] := rfl
@[simp] theorem mdE90 : ctx.md 90 = md90 := rfl
@[simp] theorem fpE90 : ctx.fp 90 = fp90 := rfl
@[simp] theorem flE90 : ctx.fl 90 = fun _ => [] := rfl
@[simp] theorem odE90 : ctx.od 90 = od90 := rfl
theorem run90 {args : List AV} {cs : List Cont} (h : callOk 14 fp90 args cs = true) : callT ctx 90 args cs = denK ctx 90 (codeOf Tryz.f90) (entry 14 gl0 args cs fp90.sites) (finK Tryz.prog fp90 cs.length [.tmp 2]) :=
  call_run rfl rfl Tryz.func90 rfl (by kernel_rfl) Tryz.ntmps90 (by rw [Tryz.results90]) rfl rfl h
theorem ov90 {cl : CallFn} (hcl : ∀ g a c r, cl g a c = some r → callT ctx g a c = some r) {args : List AV} {cs : List Cont} (h : callOk 14 fp90 args cs = true) : Le (denK (ctx.over cl) 90 (codeOf Tryz.f90) (entry 14 gl0 args cs fp90.sites) (finK Tryz.prog fp90 cs.length [.tmp 2])) (callT ctx 90 args cs) :=
  fun r hr => by rw [run90 h]; exact denK_over hcl hr
@[simp] theorem keepE92 : ctx.keep 92 = keep92 := rfl
@[simp] theorem ghE92 : ctx.gh 92 = fun _ => [] := rfl
@[simp] theorem mdE92 : ctx.md 92 = md92 := rfl
@[simp] theorem fpE92 : ctx.fp 92 = fp92 := rfl
@[simp] theorem flE92 : ctx.fl 92 = fun _ => [] := rfl
@[simp] theorem odE92 : ctx.od 92 = od92 := rfl
theorem run92 {args : List AV} {cs : List Cont} (h : callOk 39 fp92 args cs = true) : callT ctx 92 args cs = denK ctx 92 (codeOf Tryz.f92) (entry 39 gl0 args cs fp92.sites) (finK Tryz.prog fp92 cs.length [.tmp 2, .tmp 3]) :=
  call_run rfl rfl Tryz.func92 rfl (by kernel_rfl) Tryz.ntmps92 (by rw [Tryz.results92]) rfl rfl h
theorem ov92 {cl : CallFn} (hcl : ∀ g a c r, cl g a c = some r → callT ctx g a c = some r) {args : List AV} {cs : List Cont} (h : callOk 39 fp92 args cs = true) : Le (denK (ctx.over cl) 92 (codeOf Tryz.f92) (entry 39 gl0 args cs fp92.sites) (finK Tryz.prog fp92 cs.length [.tmp 2, .tmp 3])) (callT ctx 92 args cs) :=
  fun r hr => by rw [run92 h]; exact denK_over hcl hr
@[simp] theorem keepE93 : ctx.keep 93 = keep93 := rfl
@[simp] theorem ghE93 : ctx.gh 93 = fun _ => [] := rfl
@[simp] theorem mdE93 : ctx.md 93 = md93 := rfl
@[simp] theorem fpE93 : ctx.fp 93 = fp93 := rfl
@[simp] theorem flE93 : ctx.fl 93 = fun _ => [] := rfl
@[simp] theorem odE93 : ctx.od 93 = od93 := rfl
theorem run93 {args : List AV} {cs : List Cont} (h : callOk 172 fp93 args cs = true) : callT ctx 93 args cs = denK ctx 93 (codeOf Tryz.f93) (entry 172 gl0 args cs fp93.sites) (finK Tryz.prog fp93 cs.length [.tmp 6, .tmp 7]) :=
  call_run rfl rfl Tryz.func93 rfl (by kernel_rfl) Tryz.ntmps93 (by rw [Tryz.results93]) rfl rfl h
theorem ov93 {cl : CallFn} (hcl : ∀ g a c r, cl g a c = some r → callT ctx g a c = some r) {args : List AV} {cs : List Cont} (h : callOk 172 fp93 args cs = true) : Le (denK (ctx.over cl) 93 (codeOf Tryz.f93) (entry 172 gl0 args cs fp93.sites) (finK Tryz.prog fp93 cs.length [.tmp 6, .tmp 7])) (callT ctx 93 args cs) :=
  fun r hr => by rw [run93 h]; exact denK_over hcl hr
@[simp] theorem keepE94 : ctx.keep 94 = keep94 := rfl
@[simp] theorem ghE94 : ctx.gh 94 = fun _ => [] := rfl
@[simp] theorem mdE94 : ctx.md 94 = md94 := rfl
@[simp] theorem fpE94 : ctx.fp 94 = fp94 := rfl
@[simp] theorem flE94 : ctx.fl 94 = fun _ => [] := rfl
@[simp] theorem odE94 : ctx.od 94 = od94 := rfl
theorem run94 {args : List AV} {cs : List Cont} (h : callOk 11 fp94 args cs = true) : callT ctx 94 args cs = denK ctx 94 (codeOf Tryz.f94) (entry 11 gl0 args cs fp94.sites) (finK Tryz.prog fp94 cs.length [.tmp 4]) :=
  call_run rfl rfl Tryz.func94 rfl (by kernel_rfl) Tryz.ntmps94 (by rw [Tryz.results94]) rfl rfl h
theorem ov94 {cl : CallFn} (hcl : ∀ g a c r, cl g a c = some r → callT ctx g a c = some r) {args : List AV} {cs : List Cont} (h : callOk 11 fp94 args cs = true) : Le (denK (ctx.over cl) 94 (codeOf Tryz.f94) (entry 11 gl0 args cs fp94.sites) (finK Tryz.prog fp94 cs.length [.tmp 4])) (callT ctx 94 args cs) :=
  fun r hr => by rw [run94 h]; exact denK_over hcl hr
@[simp] theorem keepE95 : ctx.keep 95 = keep95 := rfl
@[simp] theorem ghE95 : ctx.gh 95 = fun _ => [] := rfl
@[simp] theorem mdE95 : ctx.md 95 = md95 := rfl
@[simp] theorem fpE95 : ctx.fp 95 = fp95 := rfl
@[simp] theorem flE95 : ctx.fl 95 = fun _ => [] := rfl
@[simp] theorem odE95 : ctx.od 95 = od95 := rfl
theorem run95 {args : List AV} {cs : List Cont} (h : callOk 11 fp95 args cs = true) : callT ctx 95 args cs = denK ctx 95 (codeOf Tryz.f95) (entry 11 gl0 args cs fp95.sites) (finK Tryz.prog fp95 cs.length [.tmp 4]) :=
  call_run rfl rfl Tryz.func95 rfl (by kernel_rfl) Tryz.ntmps95 (by rw [Tryz.results95]) rfl rfl h
theorem ov95 {cl : CallFn} (hcl : ∀ g a c r, cl g a c = some r → callT ctx g a c = some r) {args : List AV} {cs : List Cont} (h : callOk 11 fp95 args cs = true) : Le (denK (ctx.over cl) 95 (codeOf Tryz.f95) (entry 11 gl0 args cs fp95.sites) (finK Tryz.prog fp95 cs.length [.tmp 4])) (callT ctx 95 args cs) :=
  fun r hr => by rw [run95 h]; exact denK_over hcl hr
@[simp] theorem keepE96 : ctx.keep 96 = keep96 := rfl
@[simp] theorem ghE96 : ctx.gh 96 = fun _ => [] := rfl
@[simp] theorem mdE96 : ctx.md 96 = md96 := rfl
@[simp] theorem fpE96 : ctx.fp 96 = fp96 := rfl
@[simp] theorem flE96 : ctx.fl 96 = fun _ => [] := rfl
@[simp] theorem odE96 : ctx.od 96 = od96 := rfl
theorem run96 {args : List AV} {cs : List Cont} (h : callOk 16 fp96 args cs = true) : callT ctx 96 args cs = denK ctx 96 (codeOf Tryz.f96) (entry 16 gl0 args cs fp96.sites) (finK Tryz.prog fp96 cs.length [.tmp 6]) :=
  call_run rfl rfl Tryz.func96 rfl (by kernel_rfl) Tryz.ntmps96 (by rw [Tryz.results96]) rfl rfl h
theorem ov96 {cl : CallFn} (hcl : ∀ g a c r, cl g a c = some r → callT ctx g a c = some r) {args : List AV} {cs : List Cont} (h : callOk 16 fp96 args cs = true) : Le (denK (ctx.over cl) 96 (codeOf Tryz.f96) (entry 16 gl0 args cs fp96.sites) (finK Tryz.prog fp96 cs.length [.tmp 6])) (callT ctx 96 args cs) :=
  fun r hr => by rw [run96 h]; exact denK_over hcl hr
@[simp] theorem keepE97 : ctx.keep 97 = keep97 := rfl
@[simp] theorem ghE97 : ctx.gh 97 = fun _ => [] := rfl
@[simp] theorem mdE97 : ctx.md 97 = md97 := rfl
@[simp] theorem fpE97 : ctx.fp 97 = fp97 := rfl
@[simp] theorem flE97 : ctx.fl 97 = fun _ => [] := rfl
@[simp] theorem odE97 : ctx.od 97 = od97 := rfl
theorem run97 {args : List AV} {cs : List Cont} (h : callOk 16 fp97 args cs = true) : callT ctx 97 args cs = denK ctx 97 (codeOf Tryz.f97) (entry 16 gl0 args cs fp97.sites) (finK Tryz.prog fp97 cs.length [.tmp 6]) :=
  call_run rfl rfl Tryz.func97 rfl (by kernel_rfl) Tryz.ntmps97 (by rw [Tryz.results97]) rfl rfl h
theorem ov97 {cl : CallFn} (hcl : ∀ g a c r, cl g a c = some r → callT ctx g a c = some r) {args : List AV} {cs : List Cont} (h : callOk 16 fp97 args cs = true) : Le (denK (ctx.over cl) 97 (codeOf Tryz.f97) (entry 16 gl0 args cs fp97.sites) (finK Tryz.prog fp97 cs.length [.tmp 6])) (callT ctx 97 args cs) :=
  fun r hr => by rw [run97 h]; exact denK_over hcl hr
@[simp] theorem keepE98 : ctx.keep 98 = keep98 := rfl
@[simp] theorem ghE98 : ctx.gh 98 = fun _ => [] := rfl
@[simp] theorem mdE98 : ctx.md 98 = md98 := rfl
@[simp] theorem fpE98 : ctx.fp 98 = fp98 := rfl
@[simp] theorem flE98 : ctx.fl 98 = fun _ => [] := rfl
@[simp] theorem odE98 : ctx.od 98 = od98 := rfl
theorem run98 {args : List AV} {cs : List Cont} (h : callOk 5 fp98 args cs = true) : callT ctx 98 args cs = denK ctx 98 (codeOf Tryz.f98) (entry 5 gl0 args cs fp98.sites) (finK Tryz.prog fp98 cs.length [.tmp 2]) :=
  call_run rfl rfl Tryz.func98 rfl (by kernel_rfl) Tryz.ntmps98 (by rw [Tryz.results98]) rfl rfl h
theorem ov98 {cl : CallFn} (hcl : ∀ g a c r, cl g a c = some r → callT ctx g a c = some r) {args : List AV} {cs : List Cont} (h : callOk 5 fp98 args cs = true) : Le (denK (ctx.over cl) 98 (codeOf Tryz.f98) (entry 5 gl0 args cs fp98.sites) (finK Tryz.prog fp98 cs.length [.tmp 2])) (callT ctx 98 args cs) :=
  fun r hr => by rw [run98 h]; exact denK_over hcl hr
@[simp] theorem keepE99 : ctx.keep 99 = keep99 := rfl
@[simp] theorem ghE99 : ctx.gh 99 = fun _ => [] := rfl
@[simp] theorem mdE99 : ctx.md 99 = md99 := rfl
@[simp] theorem fpE99 : ctx.fp 99 = fp99 := rfl
@[simp] theorem flE99 : ctx.fl 99 = fun _ => [] := rfl
@[simp] theorem odE99 : ctx.od 99 = od99 := rfl
theorem run99 {args : List AV} {cs : List Cont} (h : callOk 94 fp99 args cs = true) : callT ctx 99 args cs = denK ctx 99 (codeOf Tryz.f99) (entry 94 gl0 args cs fp99.sites) (finK Tryz.prog fp99 cs.length [.tmp 2]) :=
  call_run rfl rfl Tryz.func99 rfl (by kernel_rfl) Tryz.ntmps99 (by rw [Tryz.results99]) rfl rfl h
theorem ov99 {cl : CallFn} (hcl : ∀ g a c r, cl g a c = some r → callT ctx g a c = some r) {args : List AV} {cs : List Cont} (h : callOk 94 fp99 args cs = true) : Le (denK (ctx.over cl) 99 (codeOf Tryz.f99) (entry 94 gl0 args cs fp99.sites) (finK Tryz.prog fp99 cs.length [.tmp 2])) (callT ctx 99 args cs) :=
  fun r hr => by rw [run99 h]; exact denK_over hcl hr
@[simp] theorem keepE100 : ctx.keep 100 = keep100 := rfl
@[simp] theorem ghE100 : ctx.gh 100 = fun _ => [] := rfl
@[simp] theorem mdE100 : ctx.md 100 = md100 := rfl
@[simp] theorem fpE100 : ctx.fp 100 = fp100 := rfl
@[simp] theorem flE100 : ctx.fl 100 = fun _ => [] := rfl
@[simp] theorem odE100 : ctx.od 100 = od100 := rfl
theorem run100 {args : List AV} {cs : List Cont} (h : callOk 18 fp100 args cs = true) : callT ctx 100 args cs = denK ctx 100 (codeOf Tryz.f100) (entry 18 gl0 args cs fp100.sites) (finK Tryz.prog fp100 cs.length [.tmp 2]) :=
  call_run rfl rfl Tryz.func100 rfl (by kernel_rfl) Tryz.ntmps100 (by rw [Tryz.results100]) rfl rfl h
theorem ov100 {cl : CallFn} (hcl : ∀ g a c r, cl g a c = some r → callT ctx g a c = some r) {args : List AV} {cs : List Cont} (h : callOk 18 fp100 args cs = true) : Le (denK (ctx.over cl) 100 (codeOf Tryz.f100) (entry 18 gl0 args cs fp100.sites) (finK Tryz.prog fp100 cs.length [.tmp 2])) (callT ctx 100 args cs) :=
  fun r hr => by rw [run100 h]; exact denK_over hcl hr
@[simp] theorem keepE101 : ctx.keep 101 = keep101 := rfl
@[simp] theorem ghE101 : ctx.gh 101 = fun _ => [] := rfl
@[simp] theorem mdE101 : ctx.md 101 = md101 := rfl
@[simp] theorem fpE101 : ctx.fp 101 = fp101 := rfl
@[simp] theorem flE101 : ctx.fl 101 = fun _ => [] := rfl
@[simp] theorem odE101 : ctx.od 101 = od101 := rfl
theorem run101 {args : List AV} {cs : List Cont} (h : callOk 7 fp101 args cs = true) : callT ctx 101 args cs = denK ctx 101 (codeOf Tryz.f101) (entry 7 gl0 args cs fp101.sites) (finK Tryz.prog fp101 cs.length [.tmp 2]) :=
  call_run rfl rfl Tryz.func101 rfl (by kernel_rfl) Tryz.ntmps101 (by rw [Tryz.results101]) rfl rfl h
theorem ov101 {cl : CallFn} (hcl : ∀ g a c r, cl g a c = some r → callT ctx g a c = some r) {args : List AV} {cs : List Cont} (h : callOk 7 fp101 args cs = true) : Le (denK (ctx.over cl) 101 (codeOf Tryz.f101) (entry 7 gl0 args cs fp101.sites) (finK Tryz.prog fp101 cs.length [.tmp 2])) (callT ctx 101 args cs) :=
  fun r hr => by rw [run101 h]; exact denK_over hcl hr
end Go.Am
end
section
namespace Go.Am
open Go
def cutA (c : UInt8) : List UInt8 → List UInt8 → List (List UInt8)
  | [], cur => [cur]
  | x :: r, cur => if x = c then cur :: cutA c r [] else cutA c r (cur ++ [x])
def cutC (c : UInt8) (s : List UInt8) : List (List UInt8) := cutA c s []
theorem cutA_app (c : UInt8) : ∀ (u r cur : List UInt8), (∀ x ∈ u, x ≠ c) → cutA c (u ++ r) cur = cutA c r (cur ++ u)
  | [], r, cur, _ => by simp
  | x :: u, r, cur, h => by
    have ih := cutA_app c u r (cur ++ [x]) (fun y hy => h y (by simp [hy]))
    simp only [List.cons_append, cutA]
    rw [if_neg (h x (by simp)), ih, List.append_assoc]
    rfl
theorem indexByte_none : ∀ {s : List UInt8} {c : UInt8}, (∀ x ∈ s, x ≠ c) → Go.Lib.indexByte s c = -1
  | [], c, _ => rfl
  | x :: s, c, h => by
    have ih := indexByte_none (s := s) (c := c) (fun y hy => h y (by simp [hy]))
    simp only [Go.Lib.indexByte]
    rw [if_neg (by simpa using h x (by simp)), ih]
    rfl
theorem indexByte_hit : ∀ {u r : List UInt8} {c : UInt8}, (∀ x ∈ u, x ≠ c) → Go.Lib.indexByte (u ++ c :: r) c = u.length
  | [], r, c, _ => by simp [Go.Lib.indexByte]
  | x :: u, r, c, h => by
    have ih := indexByte_hit (u := u) (r := r) (c := c) (fun y hy => h y (by simp [hy]))
    simp only [List.cons_append, Go.Lib.indexByte]
    rw [if_neg (by simpa using h x (by simp)), ih, if_neg (by simp)]
    simp
theorem first_of (c : UInt8) : ∀ s : List UInt8, (∀ x ∈ s, x ≠ c) ∨ ∃ u r, s = u ++ c :: r ∧ ∀ x ∈ u, x ≠ c
  | [] => .inl (by simp)
  | x :: s => by
    by_cases hx : x = c
    · exact .inr ⟨[], s, by simp [hx], by simp⟩
    · rcases first_of c s with h | ⟨u, r, rfl, h⟩
      · exact .inl (by simpa using ⟨hx, h⟩)
      · exact .inr ⟨x :: u, r, by simp, by simpa using ⟨hx, h⟩⟩
theorem count_none {c : UInt8} {s : List UInt8} (h : ∀ x ∈ s, x ≠ c) : s.count c = 0 := List.count_eq_zero.2 fun hc => h c hc rfl
theorem split_cut (c : UInt8) : ∀ (k : Nat) (s : List UInt8), s.count c = k → Go.Lib.splitK [c] 0 k s = cutC c s
  | 0, s, h => by
    have hn : ∀ x ∈ s, x ≠ c := fun x hx e => by subst e; exact List.count_eq_zero.1 h hx
    have := cutA_app c s [] [] hn
    simp only [Go.Lib.splitK, cutC]
    simp only [List.append_nil, List.nil_append] at this
    rw [this]
    rfl
  | k + 1, s, h => by
    rcases first_of c s with hn | ⟨u, r, rfl, hn⟩
    · rw [count_none hn] at h; cases h
    · have hk : r.count c = k := by
        rw [List.count_append, count_none hn, List.count_cons_self] at h
        omega
      have ih := split_cut c k r hk
      unfold Go.Lib.splitK
      rw [Go.Lib.index_one, indexByte_hit hn]
      rw [if_neg (by simp)]
      have e1 : ((u.length : Int).toNat + 0) = u.length := by simp
      have e2 : ((u.length : Int).toNat + [c].length) = u.length + 1 := by simp
      rw [e1, e2, List.take_left', List.drop_append]
      · simp only [List.drop_of_length_le (show u.length ≤ u.length + 1 by omega), Nat.add_sub_cancel_left, List.drop_succ_cons, List.drop_zero, List.nil_append, ih]
        unfold cutC
        rw [cutA_app c u (c :: r) [] hn]
        simp [cutA]
      · rfl
theorem split_eq (s : List UInt8) (c : UInt8) : Go.Lib.split s [c] = cutC c s := by
  unfold Go.Lib.split
  rw [Go.Lib.count_one]
  exact split_cut c _ s rfl
def wordsA : List UInt8 → List UInt8 → List (List UInt8)
  | [], cur => if cur = [] then [] else [cur]
  | x :: r, cur => if x = 32 then (if cur = [] then wordsA r [] else cur :: wordsA r []) else wordsA r (cur ++ [x])
def wordsF (s : List UInt8) : List (List UInt8) := wordsA s []
theorem wordsA_app : ∀ (u r cur : List UInt8), (∀ x ∈ u, x ≠ 32) → wordsA (u ++ r) cur = wordsA r (cur ++ u)
  | [], r, cur, _ => by simp
  | x :: u, r, cur, h => by
    have ih := wordsA_app u r (cur ++ [x]) (fun y hy => h y (by simp [hy]))
    simp only [List.cons_append, wordsA]
    rw [if_neg (h x (by simp)), ih, List.append_assoc]
    rfl
theorem dec_blank {n b1 b2 b3 : Nat} : Go.Lib.decodeN n 32 b1 b2 b3 = (32, 1) := by unfold Go.Lib.decodeN; simp
theorem dec_other {n b0 b1 b2 b3 : Nat} (hn : 1 ≤ n) (h : b0 ≠ 32) : (Go.Lib.decodeN n b0 b1 b2 b3).1 ≠ 32 ∧ 1 ≤ (Go.Lib.decodeN n b0 b1 b2 b3).2 ∧ (Go.Lib.decodeN n b0 b1 b2 b3).2 ≤ n ∧ (Go.Lib.decodeN n b0 b1 b2 b3).2 ≤ 4 ∧
    (1 < (Go.Lib.decodeN n b0 b1 b2 b3).2 → b1 / 64 = 2) ∧ (2 < (Go.Lib.decodeN n b0 b1 b2 b3).2 → b2 / 64 = 2) ∧ (3 < (Go.Lib.decodeN n b0 b1 b2 b3).2 → b3 / 64 = 2) := by
  unfold Go.Lib.decodeN
  repeat' split
  all_goals (refine ⟨?_, ?_, ?_, ?_, ?_, ?_, ?_⟩ <;> simp only <;> omega)
theorem extract_list (s : ByteArray) (a b : Nat) : (s.extract a b).data.toList = (s.data.toList.take b).drop a := by
  rw [Go.Lib.extract_data]
  simp [List.drop_take]
theorem words_from (s : ByteArray) : ∀ (f pos : Nat) (st : Option Nat) (acc : List (Nat × Nat)) (cur : List UInt8), s.data.toList.length ≤ pos + f → pos ≤ s.data.toList.length →
    (match st with | some a => a < pos ∧ cur = (s.data.toList.take pos).drop a | none => cur = []) →
    ((Go.Lib.closeSpans s (Go.Lib.spansFromP (fun r => decide ((r : Int) = 32)) s f pos st acc)).map fun x => (s.data.toList.take x.2).drop x.1) =
      (acc.map fun x => (s.data.toList.take x.2).drop x.1) ++ wordsA (s.data.toList.drop pos) cur := by
  have hsz : s.size = s.data.toList.length := by simp
  have close : ∀ (pos : Nat) (st : Option Nat) (acc : List (Nat × Nat)) (cur : List UInt8), pos = s.data.toList.length →
      (match st with | some a => a < pos ∧ cur = (s.data.toList.take pos).drop a | none => cur = []) →
      ((Go.Lib.closeSpans s (acc, st)).map fun x => (s.data.toList.take x.2).drop x.1) = (acc.map fun x => (s.data.toList.take x.2).drop x.1) ++ wordsA (s.data.toList.drop pos) cur := by
    intro pos st acc cur hp hst
    subst hp
    cases st with
    | none =>
      simp only at hst
      subst hst
      simp only [Go.Lib.closeSpans, List.drop_length, wordsA, if_true, List.append_nil]
    | some a =>
      obtain ⟨ha, rfl⟩ := hst
      have hne : ¬ (s.data.toList.take s.data.toList.length).drop a = [] := by
        intro h
        have := congrArg List.length h
        simp at this ha
        omega
      simp only [Go.Lib.closeSpans, List.drop_length, wordsA, List.map_append, List.map_cons, List.map_nil, hsz]
      rw [if_neg hne]
  intro f
  induction f with
  | zero =>
    intro pos st acc cur hf hp hst
    exact close pos st acc cur (by omega) hst
  | succ f ih =>
    intro pos st acc cur hf hp hst
    unfold Go.Lib.spansFromP
    by_cases hlt : pos < s.size
    · rw [if_pos hlt]
      rw [hsz] at hlt
      obtain ⟨c, r, hcr⟩ : ∃ c r, s.data.toList.drop pos = c :: r := by
        cases h : s.data.toList.drop pos with
        | nil => have := congrArg List.length h; simp at this hlt; omega
        | cons c r => exact ⟨c, r, rfl⟩
      have hgetD : ∀ k, s.data.toList.getD (pos + k) 0 = (c :: r).getD k 0 := by
        intro k
        rw [← hcr]
        simp [List.getD]
      have hdec := Go.Lib.decode_N s pos
      have hd0 := hgetD 0
      simp only [Nat.add_zero] at hd0
      rw [hd0, hgetD 1, hgetD 2, hgetD 3] at hdec
      have hr1 : s.data.toList.drop (pos + 1) = r := by rw [← List.drop_drop, hcr]; rfl
      by_cases h32 : c = 32
      · subst h32
        have hdec' : Utf8.decode s pos = (32, 1) := by rw [hdec]; exact dec_blank
        rw [hdec']
        simp only [if_pos (show decide (((32 : Nat) : Int) = 32) = true by decide)]
        cases st with
        | none =>
          simp only at hst
          subst hst
          simp only
          rw [ih (pos + 1) none acc [] (by omega) (by omega) rfl, hcr, hr1]
          simp [wordsA]
        | some a =>
          obtain ⟨ha, rfl⟩ := hst
          have hne : ¬ (s.data.toList.take pos).drop a = [] := by
            intro h
            have := congrArg List.length h
            simp at this hlt
            omega
          simp only
          rw [ih (pos + 1) none _ [] (by omega) (by omega) rfl, hcr, hr1]
          simp only [wordsA, if_pos, if_neg hne, List.map_append, List.map_cons, List.map_nil, List.append_assoc, List.cons_append, List.nil_append]
      · have hc32 : c.toNat ≠ 32 := fun e => h32 (UInt8.toNat_inj.1 e)
        have hn1 : 1 ≤ s.data.toList.length - pos := by omega
        have hoth := dec_other (n := s.data.toList.length - pos) (b0 := c.toNat) (b1 := ((c :: r).getD 1 0).toNat) (b2 := ((c :: r).getD 2 0).toNat) (b3 := ((c :: r).getD 3 0).toNat) hn1 hc32
        have hdec2 : Utf8.decode s pos = Go.Lib.decodeN (s.data.toList.length - pos) c.toNat ((c :: r).getD 1 0).toNat ((c :: r).getD 2 0).toNat ((c :: r).getD 3 0).toNat := hdec
        rw [← hdec2] at hoth
        generalize Utf8.decode s pos = dw at hoth ⊢
        obtain ⟨d, w⟩ := dw
        simp only at hoth ⊢
        obtain ⟨o1, o2, o3, o4, o5, o6, o7⟩ := hoth
        rw [if_neg (by simpa using fun e : (d : Int) = 32 => o1 (by omega))]
        have hlen : (c :: r).length = s.data.toList.length - pos := by rw [← hcr]; simp
        have hu : ∀ x ∈ (c :: r).take w, x ≠ 32 := by
          intro x hx e
          obtain ⟨k, hk, hke⟩ := List.mem_iff_getElem.1 hx
          have hkw : k < w := by simp at hk; omega
          have hget : (c :: r).getD k 0 = x := by
            rw [List.getElem_take] at hke
            rw [← hke]
            simp at hk
            simp [List.getD, show k < r.length + 1 by omega]
          subst e
          have h64 : ∀ y : UInt8, y = 32 → y.toNat / 64 = 2 → False := by
            rintro y rfl h
            revert h
            decide
          match k, hkw, hget with
          | 0, _, hget => exact h32 (by simpa using hget)
          | 1, hkw, hget => exact h64 _ hget (o5 hkw)
          | 2, hkw, hget => exact h64 _ hget (o6 hkw)
          | 3, hkw, hget => exact h64 _ hget (o7 hkw)
          | k + 4, hkw, _ => omega
        have hsplit : s.data.toList.drop pos = (c :: r).take w ++ s.data.toList.drop (pos + w) := by
          rw [← List.drop_drop, hcr, List.take_append_drop]
        have hw : wordsA (s.data.toList.drop pos) cur = wordsA (s.data.toList.drop (pos + w)) (cur ++ (c :: r).take w) := by
          rw [hsplit, wordsA_app _ _ _ hu]
        have htake : ∀ a, a ≤ pos → (s.data.toList.take (pos + w)).drop a = (s.data.toList.take pos).drop a ++ (c :: r).take w := by
          intro a ha
          rw [List.take_add, List.drop_append, hcr]
          have hl : (s.data.toList.take pos).length = pos := by simp; simp at hlt; omega
          rw [hl, show a - pos = 0 by omega]
          rfl
        rw [hw]
        cases st with
        | none =>
          simp only at hst
          subst hst
          simp only
          rw [ih (pos + w) (some pos) acc ((c :: r).take w) (by omega) (by omega) ⟨by omega, by
            rw [htake pos (Nat.le_refl _)]
            have : (s.data.toList.take pos).drop pos = [] := List.drop_eq_nil_of_le (by simp; omega)
            rw [this]; rfl⟩]
          simp
        | some a =>
          obtain ⟨ha, rfl⟩ := hst
          simp only
          rw [ih (pos + w) (some a) acc _ (by omega) (by omega) ⟨by omega, (htake a (by omega)).symm⟩]
    · rw [if_neg hlt]
      exact close pos st acc cur (by omega) hst
theorem fields_eq (s : ByteArray) : (Go.Lib.goFieldsP (fun r => decide ((r : Int) = 32)) s).map (fun x => x.data.toList) = wordsF s.data.toList := by
  have := words_from s s.size 0 none [] [] (by simp) (by simp) rfl
  simp only [List.map_nil, List.nil_append, List.drop_zero] at this
  unfold Go.Lib.goFieldsP Go.Lib.spansOfP wordsF
  rw [← this, List.map_map]
  apply List.map_congr_left
  intro x _
  exact extract_list s x.1 x.2
end Go.Am
end
section
namespace Go.Am
open Go
def numF (s : List UInt8) : Option Int := match Go.Lib.parseIntB 64 s with
  | .ok n => if Go.Lib.itoa n = s then some n else none
  | _ => none
def dgB (c : UInt8) : Prop := 48 ≤ c.toNat ∧ c.toNat ≤ 57
instance (c : UInt8) : Decidable (dgB c) := inferInstanceAs (Decidable (_ ∧ _))
def valA : List UInt8 → Nat → Nat
  | [], a => a
  | c :: r, a => valA r (a * 10 + (c.toNat - 48))
theorem valA_app (c : UInt8) : ∀ (l : List UInt8) (a : Nat), valA (l ++ [c]) a = valA l a * 10 + (c.toNat - 48)
  | [], a => rfl
  | x :: l, a => valA_app c l _
theorem valA_ge : ∀ (l : List UInt8) (a : Nat), a ≤ valA l a
  | [], a => Nat.le_refl _
  | x :: l, a => Nat.le_trans (by omega) (valA_ge l (a * 10 + (x.toNat - 48)))
def canon (l : List UInt8) : Prop := l ≠ [] ∧ (∀ c ∈ l, dgB c) ∧ (l.head? = some 48 → l.length = 1)
theorem ofNat_dig {c : UInt8} (h : dgB c) : UInt8.ofNat (48 + (c.toNat - 48)) = c := by
  have := h.1
  rw [show 48 + (c.toNat - 48) = c.toNat by omega]
  simp
theorem dec_val : ∀ (n : Nat) (l : List UInt8), l.length = n → canon l → Go.Lib.decDigits (valA l 0) = l ∧ (l.head? ≠ some 48 → 1 ≤ valA l 0) := by
  intro n
  induction n with
  | zero =>
    intro l hl h
    exact absurd (List.eq_nil_of_length_eq_zero hl) h.1
  | succ n ih =>
    intro l hl h
    obtain ⟨h0, h1, h2⟩ := h
    obtain ⟨m, c, rfl⟩ : ∃ m c, l = m ++ [c] := ⟨l.dropLast, l.getLast h0, (List.dropLast_concat_getLast h0).symm⟩
    have hc : dgB c := h1 c (by simp)
    rw [valA_app]
    cases m with
    | nil =>
      have hlt : valA [] 0 * 10 + (c.toNat - 48) < 10 := by simp [valA]; have := hc.2; omega
      constructor
      · rw [Go.Lib.decDigits, dif_pos hlt]
        simp only [valA, Nat.zero_mul, Nat.zero_add, List.nil_append]
        rw [ofNat_dig hc]
      · intro hne
        simp only [List.nil_append, List.head?_cons, ne_eq, Option.some.injEq] at hne
        simp only [valA]
        have h48 : c.toNat ≠ 48 := fun e => hne (UInt8.toNat_inj.1 e)
        have := hc.1
        omega
    | cons x m =>
      have hne : (x :: m).head? ≠ some 48 := by
        intro e
        have := h2 (by simpa using e)
        simp at this
      have hm : canon (x :: m) := ⟨by simp, fun d hd => h1 d (by simp at hd ⊢; rcases hd with hd | hd <;> simp [hd]), fun e => absurd e hne⟩
      obtain ⟨i1, i2⟩ := ih (x :: m) (by simpa using hl) hm
      have i2 := i2 hne
      have hd := hc.2
      have hlt : ¬ valA (x :: m) 0 * 10 + (c.toNat - 48) < 10 := by omega
      constructor
      · rw [Go.Lib.decDigits, dif_neg hlt]
        have e1 : (valA (x :: m) 0 * 10 + (c.toNat - 48)) / 10 = valA (x :: m) 0 := by omega
        have e2 : (valA (x :: m) 0 * 10 + (c.toNat - 48)) % 10 = c.toNat - 48 := by omega
        rw [e1, e2, i1, ofNat_dig hc]
      · intro _
        omega
theorem dec_canon (u : Nat) : canon (Go.Lib.decDigits u) ∧ valA (Go.Lib.decDigits u) 0 = u ∧ (1 ≤ u → (Go.Lib.decDigits u).head? ≠ some 48) := by
  induction u using Nat.strongRecOn with
  | _ u ih =>
    by_cases h : u < 10
    · rw [Go.Lib.decDigits, dif_pos h]
      have ht : (UInt8.ofNat (48 + u)).toNat = 48 + u := by rw [UInt8.toNat_ofNat']; omega
      refine ⟨⟨by simp, by simp [dgB, ht]; omega, by simp⟩, by simp only [valA, ht]; omega, fun h1 e => ?_⟩
      simp only [List.head?_cons, Option.some.injEq] at e
      have := congrArg UInt8.toNat e
      rw [ht] at this
      have h48 : (48 : UInt8).toNat = 48 := rfl
      omega
    · rw [Go.Lib.decDigits, dif_neg h]
      obtain ⟨⟨i0, i1, i2⟩, i3, i4⟩ := ih (u / 10) (by omega)
      have ht : (UInt8.ofNat (48 + u % 10)).toNat = 48 + u % 10 := by rw [UInt8.toNat_ofNat']; omega
      have hh : (Go.Lib.decDigits (u / 10) ++ [UInt8.ofNat (48 + u % 10)]).head? = (Go.Lib.decDigits (u / 10)).head? := by
        cases hq : Go.Lib.decDigits (u / 10) with
        | nil => exact absurd hq i0
        | cons x m => rfl
      have i4 := i4 (by omega)
      refine ⟨⟨by simp, fun c hc => ?_, fun e => ?_⟩, ?_, fun _ => ?_⟩
      · rcases List.mem_append.1 hc with hc | hc
        · exact i1 c hc
        · simp at hc
          subst hc
          simp [dgB, ht]
          omega
      · rw [hh] at e
        exact absurd e i4
      · rw [valA_app, i3, ht]
        omega
      · rw [hh]
        exact i4
theorem parseU_ok : ∀ (l : List UInt8) (a v : Nat), Go.Lib.parseUintM 18446744073709551615 a l = .ok v → (∀ c ∈ l, dgB c) ∧ v = valA l a ∧ (l ≠ [] → v ≤ 18446744073709551615)
  | [], a, v, h => by
    simp only [Go.Lib.parseUintM] at h
    cases h
    exact ⟨by simp, rfl, by simp⟩
  | c :: r, a, v, h => by
    simp only [Go.Lib.parseUintM] at h
    split at h
    · rename_i hc
      split at h
      · cases h
      · split at h
        · cases h
        · rename_i h1 h2
          obtain ⟨i1, i2, i3⟩ := parseU_ok r _ v h
          refine ⟨?_, i2, fun _ => ?_⟩
          · intro x hx
            rcases List.mem_cons.1 hx with rfl | hx
            · exact hc
            · exact i1 x hx
          · cases r with
            | nil => rw [i2]; simp only [valA]; omega
            | cons y r => exact i3 (by simp)
    · cases h
theorem parseU_of : ∀ (l : List UInt8) (a : Nat), (∀ c ∈ l, dgB c) → valA l a ≤ 18446744073709551615 → Go.Lib.parseUintM 18446744073709551615 a l = .ok (valA l a)
  | [], a, _, _ => rfl
  | c :: r, a, h, hv => by
    have hc := h c (by simp)
    have ge := valA_ge r (a * 10 + (c.toNat - 48))
    have hv' : valA r (a * 10 + (c.toNat - 48)) ≤ 18446744073709551615 := hv
    have ih := parseU_of r (a * 10 + (c.toNat - 48)) (fun x hx => h x (by simp [hx])) hv'
    simp only [Go.Lib.parseUintM]
    rw [if_pos (show 48 ≤ c.toNat ∧ c.toNat ≤ 57 from hc), if_neg (by omega), if_neg (by omega), ih]
    rfl
instance (l : List UInt8) : Decidable (canon l) := inferInstanceAs (Decidable (_ ∧ _ ∧ (_ → _)))
def numR (s : List UInt8) : Option Int :=
  if s.head? = some 45 then
    (if canon s.tail ∧ s.tail.head? ≠ some 48 ∧ s.tail.length ≤ 19 ∧ valA s.tail 0 ≤ 9223372036854775808 then some (-(valA s.tail 0 : Int)) else none)
  else (if canon s ∧ s.length ≤ 19 ∧ valA s 0 < 9223372036854775808 then some (valA s 0 : Int) else none)
theorem val_low : ∀ (n : Nat) (l : List UInt8), l.length = n + 1 → canon l → l.head? ≠ some 48 → 10 ^ n ≤ valA l 0 := by
  intro n
  induction n with
  | zero =>
    intro l hl h hh
    have := (dec_val 1 l hl h).2 hh
    simpa using this
  | succ n ih =>
    intro l hl h hh
    obtain ⟨h0, h1, h2⟩ := h
    obtain ⟨m, c, rfl⟩ : ∃ m c, l = m ++ [c] := ⟨l.dropLast, l.getLast h0, (List.dropLast_concat_getLast h0).symm⟩
    have hm : m.length = n + 1 := by simpa using hl
    have hh' : m.head? ≠ some 48 := by
      cases m with
      | nil => simp at hm
      | cons x m => simpa using hh
    have := ih m hm ⟨fun e => by subst e; simp at hm, fun d hd => h1 d (by simp [hd]), fun e => absurd e hh'⟩ hh'
    rw [valA_app, Nat.pow_succ]
    omega
theorem len_low {l : List UInt8} (h : canon l) (hv : valA l 0 ≤ 9223372036854775808) : l.length ≤ 19 := by
  by_cases hh : l.head? = some 48
  · rw [h.2.2 hh]; omega
  · by_cases hl : l.length ≤ 19
    · exact hl
    · have h1 := val_low (l.length - 1) l (by omega) h hh
      have h2 : 10 ^ 19 ≤ 10 ^ (l.length - 1) := Nat.pow_le_pow_right (by decide) (by omega)
      have h3 : (10 : Nat) ^ 19 = 10000000000000000000 := by decide
      omega
theorem parseI_ok {s : List UInt8} {n : Int} (h : Go.Lib.parseIntB 64 s = .ok n) : (s.head? = some 45 ∧ ∃ u : Nat, n = -(u : Int) ∧ u ≤ 9223372036854775808) ∨ (s.head? ≠ some 45 ∧ ∃ u : Nat, n = (u : Int) ∧ u < 9223372036854775808) := by
  unfold Go.Lib.parseIntB at h
  split at h
  · cases h
  · rename_i c r
    simp only at h
    split at h
    · cases h
    · cases h
    · rename_i u hu
      split at h
      · cases h
      · split at h
        · cases h
        · rename_i h1 h2
          have he : ∀ d : UInt8, d.toNat = 45 ↔ d = 45 := fun d => ⟨fun e => UInt8.toNat_inj.1 e, fun e => by rw [e]; rfl⟩
          by_cases hc : c.toNat = 45
          · rw [if_pos hc] at h
            cases h
            refine .inl ⟨by simp [(he c).1 hc], u, rfl, ?_⟩
            have : ¬ 2 ^ (64 - 1) < u := fun hlt => h2 ⟨hc, hlt⟩
            simpa using this
          · rw [if_neg hc] at h
            cases h
            refine .inr ⟨by simp only [List.head?_cons, ne_eq, Option.some.injEq]; exact fun e => hc ((he c).2 e), u, rfl, ?_⟩
            have : ¬ 2 ^ (64 - 1) ≤ u := fun hlt => h1 ⟨hc, hlt⟩
            simpa using this
theorem parseU_B {l : List UInt8} (h : canon l) (hv : valA l 0 ≤ 18446744073709551615) : Go.Lib.parseUintB 64 l = .ok (valA l 0) := by
  unfold Go.Lib.parseUintB
  rw [if_neg h.1]
  have : (2 : Nat) ^ 64 - 1 = 18446744073709551615 := by decide
  rw [this]
  exact parseU_of l 0 h.2.1 hv
theorem itoa_neg {u : Nat} (h : 1 ≤ u) : Go.Lib.itoa (-(u : Int)) = 45 :: Go.Lib.decDigits u := by
  unfold Go.Lib.itoa
  rw [if_pos (by omega)]
  have : (-(u : Int)).natAbs = u := by omega
  rw [this]
theorem itoa_pos (u : Nat) : Go.Lib.itoa (u : Int) = Go.Lib.decDigits u := by
  unfold Go.Lib.itoa
  rw [if_neg (by omega)]
  have : (u : Int).toNat = u := by omega
  rw [this]
theorem dig_ne {l : List UInt8} (h : canon l) : l.head? ≠ some 45 ∧ l.head? ≠ some 43 := by
  obtain ⟨h0, h1, _⟩ := h
  cases l with
  | nil => exact absurd rfl h0
  | cons c l =>
    have hc := h1 c (by simp)
    simp only [List.head?_cons, ne_eq, Option.some.injEq]
    exact ⟨fun e => by subst e; revert hc; decide, fun e => by subst e; revert hc; decide⟩
theorem numF_of {s : List UInt8} {n : Int} (h : numR s = some n) : numF s = some n := by
  unfold numR at h
  unfold numF
  split at h
  · rename_i h45
    obtain ⟨r, rfl⟩ : ∃ r, s = 45 :: r := by
      cases s with
      | nil => simp at h45
      | cons c r => simp at h45; exact ⟨r, by rw [h45]⟩
    split at h
    · rename_i hc
      obtain ⟨hc, hh, _, hv⟩ := hc
      cases h
      simp only [List.tail_cons] at hc hh hv ⊢
      have hp : Go.Lib.parseIntB 64 (45 :: r) = .ok (-(valA r 0 : Int)) := by
        unfold Go.Lib.parseIntB
        simp only
        have h1 : (45 : UInt8).toNat = 45 := rfl
        rw [h1, if_pos (.inr rfl), parseU_B hc (by omega)]
        have e63 : (2 : Nat) ^ (64 - 1) = 9223372036854775808 := by decide
        rw [e63]
        simp only [not_true, false_and, if_false, true_and]
        rw [if_neg (by omega)]
        rfl
      rw [hp]
      simp only
      rw [itoa_neg ((dec_val _ r rfl hc).2 hh), (dec_val _ r rfl hc).1, if_pos rfl]
    · cases h
  · rename_i h45
    split at h
    · rename_i hc
      obtain ⟨hc, _, hv⟩ := hc
      cases h
      have hp : Go.Lib.parseIntB 64 s = .ok (valA s 0 : Int) := by
        unfold Go.Lib.parseIntB
        split
        · exact absurd rfl hc.1
        · rename_i c r _
          obtain ⟨q1, q2⟩ := dig_ne hc
          simp only [List.head?_cons, ne_eq, Option.some.injEq] at q1 q2
          have k1 : ¬ c.toNat = 45 := fun e => q1 (UInt8.toNat_inj.1 e)
          have k2 : ¬ c.toNat = 43 := fun e => q2 (UInt8.toNat_inj.1 e)
          simp only
          rw [if_neg (by rintro (e | e); exact k2 e; exact k1 e), parseU_B hc (by omega)]
          have e63 : (2 : Nat) ^ (64 - 1) = 9223372036854775808 := by decide
          rw [e63]
          simp only [k1, not_false_eq_true, true_and, false_and, if_false]
          rw [if_neg (by omega)]
      rw [hp]
      simp only
      rw [itoa_pos, (dec_val _ s rfl hc).1, if_pos rfl]
    · cases h
theorem numR_of {s : List UInt8} {n : Int} (h : numF s = some n) : numR s = some n := by
  unfold numF at h
  split at h
  · rename_i m hp
    split at h
    · rename_i hi
      cases h
      subst hi
      rcases parseI_ok hp with ⟨h45, u, rfl, hu⟩ | ⟨h45, u, rfl, hu⟩
      · have hu1 : 1 ≤ u := by
          rcases Nat.eq_zero_or_pos u with rfl | hpos
          · exfalso
            have : Go.Lib.itoa (-((0 : Nat) : Int)) = Go.Lib.decDigits 0 := itoa_pos 0
            rw [this] at h45
            exact (dig_ne (dec_canon 0).1).1 h45
          · exact hpos
        rw [itoa_neg hu1] at h45 ⊢
        obtain ⟨c1, c2, c3⟩ := dec_canon u
        unfold numR
        rw [if_pos (by simp)]
        simp only [List.tail_cons]
        simp only [c2]
        rw [if_pos ⟨c1, c3 hu1, len_low c1 (by rw [c2]; exact hu), hu⟩]
      · rw [itoa_pos]
        obtain ⟨c1, c2, c3⟩ := dec_canon u
        unfold numR
        rw [if_neg (dig_ne c1).1]
        simp only [c2]
        rw [if_pos ⟨c1, len_low c1 (by rw [c2]; omega), hu⟩]
    · cases h
  · cases h
theorem num_eq (s : List UInt8) : numF s = numR s := by
  cases h : numR s with
  | some n => exact numF_of h
  | none =>
    cases h' : numF s with
    | none => rfl
    | some n => rw [numR_of h'] at h; cases h
end Go.Am
end
section
namespace Go.Am
open Go
structure Lim where
  vel : Int
  acc : Int
  dec : Int
  lo : Int
  hi : Int
  deriving DecidableEq
structure Ax where
  l : Lim
  win : Int
  home : Int
  fast : Int
  creep : Int
  watch : Int
  count : Int
  follow : Int
  deriving DecidableEq
structure Cn where
  fuel : Int
  axes : List Ax
  deriving DecidableEq
def limC (l : Lim) : List D := [.int .i64 l.vel, .int .i64 l.acc, .int .i64 l.dec, .int .i64 l.lo, .int .i64 l.hi]
def limD (l : Lim) : D := .agg [.int .i64 l.vel, .int .i64 l.acc, .int .i64 l.dec, .int .i64 l.lo, .int .i64 l.hi]
def axD (a : Ax) : D := .agg [.int .i64 a.l.vel, .int .i64 a.l.acc, .int .i64 a.l.dec, .int .i64 a.l.lo, .int .i64 a.l.hi, .int .i64 a.win, .int .i64 a.home, .int .i64 a.fast, .int .i64 a.creep, .int .i64 a.watch, .int .i64 a.count, .int .i64 a.follow]
def cnD (c : Cn) : D := .agg [.int .i64 c.fuel, .list (c.axes.map axD)]
def limR (l : Lim) : Bool := decide (1 ≤ l.vel ∧ l.vel ≤ 1048576 ∧ 1 ≤ l.acc ∧ l.acc ≤ 1048576 ∧ 1 ≤ l.dec ∧ l.dec ≤ 1048576 ∧ -1099511627776 ≤ l.lo ∧ l.lo ≤ 1099511627776 ∧ l.lo ≤ l.hi ∧ l.hi ≤ 1099511627776)
def homeR (fast creep : Int) : Bool := if 0 < fast then decide (1 ≤ creep ∧ creep ≤ fast ∧ fast ≤ 1048576) else decide (creep ≤ -1 ∧ fast ≤ creep ∧ -1048576 ≤ fast)
def madeR (l : Lim) (win home fast creep : Int) : Bool := decide (1 ≤ win ∧ win ≤ 16) && (limR l && (decide (l.lo ≤ home ∧ home ≤ l.hi) && homeR fast creep))
def driveR (watch count : Int) : Bool := decide (1 ≤ watch ∧ watch ≤ 100) && decide (1 ≤ count ∧ count ≤ 20)
def axR (a : Ax) : Bool := madeR a.l a.win a.home a.fast a.creep && (driveR a.watch a.count && decide (1 ≤ a.follow ∧ a.follow ≤ 1099511627776))
def cnR (c : Cn) : Bool := decide (1 ≤ c.fuel ∧ c.fuel ≤ 16384) && (decide (1 ≤ c.axes.length ∧ c.axes.length ≤ 4) && c.axes.all axR)
def smP (n : Int) : Int := max (-1) (min n 1048576)
def asR (n : Int) : Int := if n < 0 ∨ 1000 < n then -1 else n
def axOf (sm : Int → Int) : List Int → Ax
  | [a, b, c, d, e, f, g, h, i, j, k, l] => ⟨⟨a, b, c, d, e⟩, sm f, g, h, i, sm j, sm k, l⟩
  | _ => ⟨⟨0, 0, 0, 0, 0⟩, 0, 0, 0, 0, 0, 0, 0⟩
def numsF : List (List UInt8) → Option (List Int)
  | [] => some []
  | w :: r => match numF w with
    | some n => match numsF r with
      | some l => some (n :: l)
      | none => none
    | none => none
def lineF (sm : Int → Int) (c : Cn) (ws : List (List UInt8)) : Cn × Int :=
  match numsF ws.tail with
  | none => (c, 5)
  | some l =>
    if ws.head? = some [102, 117, 101, 108] ∧ l.length = 1 then
      (if c.fuel ≠ 0 then (c, 11) else if ¬ (1 ≤ l.headD 0 ∧ l.headD 0 ≤ 16384) then (c, 1) else (⟨l.headD 0, c.axes⟩, 0))
    else if ws.head? = some [97, 120, 105, 115] ∧ l.length = 12 then
      (if axR (axOf sm l) = false then (c, 1) else if c.axes.length = 4 then (c, 8) else (⟨c.fuel, c.axes ++ [axOf sm l]⟩, 0))
    else (c, 5)
def cn0 : Cn := ⟨0, []⟩
def quiet (ws : List (List UInt8)) : Prop := ws = [] ∨ (ws.headD []).head? = some 35
instance (ws : List (List UInt8)) : Decidable (quiet ws) := inferInstanceAs (Decidable (_ ∨ _))
def linesF (sm : Int → Int) : List (List UInt8) → Nat → Cn → Cn × Int × Int
  | [], _, c => if c.fuel = 0 ∨ c.axes = [] then (cn0, 5, 0) else (c, 0, 0)
  | s :: r, i, c =>
    if 512 ≤ i ∨ 256 < s.length then (cn0, 13, i + 1)
    else if quiet (wordsF s) then linesF sm r (i + 1) c
    else if (lineF sm c (wordsF s)).2 = 0 then linesF sm r (i + 1) (lineF sm c (wordsF s)).1
    else (cn0, (lineF sm c (wordsF s)).2, i + 1)
def confF (sm : Int → Int) (s : List UInt8) : Cn × Int × Int := linesF sm (cutC 10 s) 0 cn0
theorem sm_ok {n m k : Int} (h1 : 1 ≤ m) (h2 : k ≤ 100) : (m ≤ smP n ∧ smP n ≤ k ↔ m ≤ asR n ∧ asR n ≤ k) ∧ (m ≤ smP n ∧ smP n ≤ k → smP n = asR n) := by
  unfold smP asR
  constructor
  · constructor
    · rintro ⟨a, b⟩; split <;> omega
    · split
      · rintro ⟨a, b⟩; omega
      · rintro ⟨a, b⟩; omega
  · rintro ⟨a, b⟩; split <;> omega
theorem axOf_eq (l : List Int) : axR (axOf smP l) = axR (axOf asR l) ∧ (axR (axOf smP l) = true → axOf smP l = axOf asR l) := by
  unfold axOf
  split
  · rename_i a b c d e f g h i j k l
    have h1 := sm_ok (n := f) (m := 1) (k := 16) (by omega) (by omega)
    have h2 := sm_ok (n := j) (m := 1) (k := 100) (by omega) (by omega)
    have h3 := sm_ok (n := k) (m := 1) (k := 20) (by omega) (by omega)
    simp only [axR, madeR, driveR]
    simp only [h1.1, h2.1, h3.1, true_and]
    intro h
    simp only [Bool.and_eq_true, decide_eq_true_eq] at h
    rw [h1.2 (h1.1.2 h.1.1), h2.2 (h2.1.2 h.2.1.1), h3.2 (h3.1.2 h.2.1.2)]
  · exact ⟨rfl, fun _ => rfl⟩
theorem lineF_eq (c : Cn) (ws : List (List UInt8)) : lineF smP c ws = lineF asR c ws := by
  unfold lineF
  split
  · rfl
  · rename_i l _
    obtain ⟨h1, h2⟩ := axOf_eq l
    rw [h1]
    by_cases hr : axR (axOf asR l) = false
    · rw [if_pos hr, if_pos hr]
    · rw [if_neg hr, if_neg hr, h2 (by rw [h1]; simpa using hr)]
theorem linesF_eq : ∀ (l : List (List UInt8)) (i : Nat) (c : Cn), linesF smP l i c = linesF asR l i c
  | [], i, c => rfl
  | s :: r, i, c => by
    unfold linesF
    rw [lineF_eq, linesF_eq r, linesF_eq r]
theorem confF_eq (s : List UInt8) : confF smP s = confF asR s := linesF_eq _ _ _
end Go.Am
end
section
namespace Go.Am
open Go
@[simp] theorem range_2 : List.range 2 = [0, 1] := rfl
@[simp] theorem range_3 : List.range 3 = [0, 1, 2] := rfl
@[simp] theorem range_4 : List.range 4 = [0, 1, 2, 3] := rfl
@[simp] theorem range_5 : List.range 5 = [0, 1, 2, 3, 4] := rfl
@[simp] theorem range_6 : List.range 6 = [0, 1, 2, 3, 4, 5] := rfl
@[simp] theorem int_beq (a b : Int) : (a == b) = decide (a = b) := by by_cases h : a = b <;> simp [h]
def I64 (n : Int) : Prop := -9223372036854775808 ≤ n ∧ n ≤ 9223372036854775807
theorem wrap_id {n : Int} (h : I64 n) : IntKind.i64.wrap n = n := IntWalk.i64_in _ (by unfold I64 at h; omega)
end Go.Am
end
section
namespace Go.Am
open Go
abbrev AnsT := Option (Out × List (Nat × Cont))
theorem hoistB (c : Prop) [Decidable c] (a b : Bool) (l : List (Nat × Cont)) : (if c then (some (Out.ret (.d (.bool a)), l) : AnsT) else some (Out.ret (.d (.bool b)), l)) = some (Out.ret (.d (.bool (if c then a else b))), l) := by split <;> rfl
theorem retB_iff (a b : Bool) (l : List (Nat × Cont)) : (some (Out.ret (.d (.bool a)), l) : AnsT) = some (Out.ret (.d (.bool b)), l) ↔ (a = true ↔ b = true) := by
  cases a <;> cases b <;> simp
theorem hoistI (c : Prop) [Decidable c] (k : IntKind) (a b : Int) (l : List (Nat × Cont)) : (if c then (some (Out.ret (.d (.int k a)), l) : AnsT) else some (Out.ret (.d (.int k b)), l)) = some (Out.ret (.d (.int k (if c then a else b))), l) := by split <;> rfl
theorem hoistT (c : Prop) [Decidable c] (a b : List AV) (l : List (Nat × Cont)) : (if c then (some (Out.ret (.tup a), l) : AnsT) else some (Out.ret (.tup b), l)) = some (Out.ret (.tup (if c then a else b)), l) := by split <;> rfl
end Go.Am
end
section
namespace Go.Am
open Go Go.Proofs
variable [Inhabited Mx2]
set_option maxRecDepth 20000
theorem place_r (n : Int) : callT ctx 42 [.d (.int .i64 n)] [] = some (.ret (.d (.bool (decide (-2199023255552 ≤ n ∧ n ≤ 2199023255552)))), []) := by
  rw [run42 (by simp)]
  simp [Tryz.f42, drwK_end]
theorem within_r (n a b : Int) : callT ctx 44 [.d (.int .i64 n), .d (.int .i64 a), .d (.int .i64 b)] [] = some (.ret (.d (.bool (decide (a ≤ n ∧ n ≤ b)))), []) := by
  rw [run44 (by simp)]
  simp [Tryz.f44, drwK_end]
theorem genRight_r (l : Lim) : callT ctx 23 [.d (limD l)] [] = some (.ret (.d (.bool (limR l))), []) := by
  rw [run23 (by simp)]
  simp [Tryz.f23, limD, within_r, drwK_end]
  simp only [hoistB, retB_iff]
  grind (splits := 40) [limR]
theorem homeRight_r (p f c : Int) (t : Bool) : callT ctx 33 [.d (.agg [.int .i64 p, .int .i64 f, .int .i64 c, .bool t])] [] = some (.ret (.d (.bool (decide (0 ≤ p ∧ p ≤ 5) && homeR f c))), []) := by
  rw [run33 (by simp)]
  simp [Tryz.f33, drwK_end]
  simp only [hoistB, retB_iff]
  grind (splits := 40) [homeR]
theorem watchRight_r (l m n : Int) : callT ctx 35 [.d (.agg [.int .i64 l, .int .i64 m, .int .i64 n])] [] = some (.ret (.d (.bool (decide (1 ≤ l ∧ l ≤ 100 ∧ 0 ≤ m ∧ m ≤ l ∧ -1 ≤ n ∧ n ≤ 255)))), []) := by
  rw [run35 (by simp)]
  simp [Tryz.f35, drwK_end]
  grind
theorem bounceRight_r (l : Int) (b : Bool) (n : Int) : callT ctx 34 [.d (.agg [.int .i64 l, .bool b, .int .i64 n])] [] = some (.ret (.d (.bool (decide (1 ≤ l ∧ l ≤ 20 ∧ 0 ≤ n ∧ n < l)))), []) := by
  rw [run34 (by simp)]
  simp [Tryz.f34, drwK_end]
  grind
theorem homeNew_r (f c : Int) : callT ctx 24 [.d (.int .i64 f), .d (.int .i64 c)] [] = some (.ret (.tup [.d (if homeR f c then .agg [.int .i64 0, .int .i64 f, .int .i64 c, .bool false] else .agg [.int .i64 0, .int .i64 0, .int .i64 0, .bool false]), .d (.int .i64 (if homeR f c then 0 else 1))]), []) := by
  rw [run24 (by simp)]
  cases h : homeR f c <;> simp [Tryz.f24, homeRight_r, h, drwK_end]
theorem watchNew_r (l : Int) : callT ctx 25 [.d (.int .i64 l)] [] = some (.ret (.tup [.d (if 1 ≤ l ∧ l ≤ 100 then .agg [.int .i64 l, .int .i64 0, .int .i64 (-1)] else .agg [.int .i64 0, .int .i64 0, .int .i64 0]), .d (.int .i64 (if 1 ≤ l ∧ l ≤ 100 then 0 else 1))]), []) := by
  rw [run25 (by simp)]
  by_cases h : 1 ≤ l ∧ l ≤ 100
  · have h0 : 0 ≤ l := by omega
    simp [Tryz.f25, watchRight_r, h, h0, drwK_end]
  · have h1 : ¬ (1 ≤ l ∧ l ≤ 100 ∧ 0 ≤ l) := by omega
    simp [Tryz.f25, watchRight_r, h, h1, drwK_end]
theorem bounceNew_r (l : Int) : callT ctx 26 [.d (.int .i64 l), .d (.bool false)] [] = some (.ret (.tup [.d (if 1 ≤ l ∧ l ≤ 20 then .agg [.int .i64 l, .bool false, .int .i64 0] else .agg [.int .i64 0, .bool false, .int .i64 0]), .d (.int .i64 (if 1 ≤ l ∧ l ≤ 20 then 0 else 1))]), []) := by
  rw [run26 (by simp)]
  by_cases h : 1 ≤ l ∧ l ≤ 20
  · have h0 : 0 < l := by omega
    simp [Tryz.f26, bounceRight_r, h, h0, drwK_end]
  · have h1 : ¬ (1 ≤ l ∧ l ≤ 20 ∧ 0 < l) := by omega
    simp [Tryz.f26, bounceRight_r, h, h1, drwK_end]
theorem rep1 : callT ctx 43 [.d (.list [.int .i64 0]), .d (.int .i64 3)] [] = some (.ret (.d (.list [.int .i64 0, .int .i64 0, .int .i64 0])), []) := callT_of 300 (by kernel_rfl)
end Go.Am
end
section
namespace Go.Am
open Go Go.Proofs
variable [Inhabited Mx2]
set_option maxRecDepth 20000
theorem rep_all : ∀ w : Nat, 1 ≤ w → w ≤ 16 → callT ctx 43 [.d (.list [.int .i64 0]), .d (.int .i64 w)] [] = some (.ret (.d (.list (List.replicate w (.int .i64 0)))), []) := by
  intro w h1 h2
  match w, h1, h2 with
  | 1, _, _ => exact callT_of 300 (by kernel_rfl)
  | 2, _, _ => exact callT_of 300 (by kernel_rfl)
  | 3, _, _ => exact callT_of 300 (by kernel_rfl)
  | 4, _, _ => exact callT_of 300 (by kernel_rfl)
  | 5, _, _ => exact callT_of 300 (by kernel_rfl)
  | 6, _, _ => exact callT_of 300 (by kernel_rfl)
  | 7, _, _ => exact callT_of 300 (by kernel_rfl)
  | 8, _, _ => exact callT_of 300 (by kernel_rfl)
  | 9, _, _ => exact callT_of 300 (by kernel_rfl)
  | 10, _, _ => exact callT_of 300 (by kernel_rfl)
  | 11, _, _ => exact callT_of 300 (by kernel_rfl)
  | 12, _, _ => exact callT_of 300 (by kernel_rfl)
  | 13, _, _ => exact callT_of 300 (by kernel_rfl)
  | 14, _, _ => exact callT_of 300 (by kernel_rfl)
  | 15, _, _ => exact callT_of 300 (by kernel_rfl)
  | 16, _, _ => exact callT_of 300 (by kernel_rfl)
  | w + 17, _, h => omega
theorem smoothNew_r (w : Int) : callT ctx 22 [.d (.int .i64 w), .d (.int .i64 0)] [] = some (.ret (.tup [.d (.agg [.list (if 1 ≤ w ∧ w ≤ 16 then List.replicate w.toNat (.int .i64 0) else [])]), .d (.int .i64 (if 1 ≤ w ∧ w ≤ 16 then 0 else 1))]), []) := by
  rw [run22 (by simp)]
  by_cases h : 1 ≤ w ∧ w ≤ 16
  · obtain ⟨n, rfl⟩ : ∃ n : Nat, w = n := ⟨w.toNat, by omega⟩
    have hr := rep_all n (by omega) (by omega)
    have h1 : ¬ ((n : Int) < 1) := by omega
    have h2 : ¬ (16 < (n : Int)) := by omega
    have h3 : 1 ≤ n := by omega
    have h4 : n ≤ 16 := by omega
    simp [Tryz.f22, place_r, hr, h1, h2, h3, h4, drwK_end]
  · by_cases h1 : w < 1
    · have h' : ¬ (1 ≤ w) := by omega
      simp [Tryz.f22, place_r, h1, h', drwK_end]
    · have h2 : 16 < w := by omega
      have h' : ¬ (w ≤ 16) := by omega
      simp [Tryz.f22, place_r, h1, h2, h', drwK_end]
def axisD (l : Lim) (win home fast creep : Int) (last : List D) : D := .agg [.int .i64 0, .int .i64 l.vel, .int .i64 l.acc, .int .i64 l.dec, .int .i64 l.lo, .int .i64 l.hi, .int .i64 win, .int .i64 home, .int .i64 fast, .int .i64 creep, .int .i64 0, .int .i64 0, .list last, .int .i64 0, .list [], .list [], .bool false, .int .i64 0, .int .i64 0, .int .i64 0, .bool false, .int .i64 100, .int .i64 0, .int .i64 0, .int .i64 0, .bool false]
def axis0 : D := .agg [.int .i64 0, .int .i64 0, .int .i64 0, .int .i64 0, .int .i64 0, .int .i64 0, .int .i64 0, .int .i64 0, .int .i64 0, .int .i64 0, .int .i64 0, .int .i64 0, .list [], .int .i64 0, .list [], .list [], .bool false, .int .i64 0, .int .i64 0, .int .i64 0, .bool false, .int .i64 0, .int .i64 0, .int .i64 0, .int .i64 0, .bool false]
def axN (l : Lim) (win home fast creep : Int) : D := if madeR l win home fast creep then axisD l win home fast creep (List.replicate win.toNat (.int .i64 0)) else axis0
theorem axisNew_r (l : Lim) (win home fast creep : Int) : callT ctx 8 [.d (limD l), .d (.int .i64 win), .d (.int .i64 home), .d (.int .i64 fast), .d (.int .i64 creep)] [] = some (.ret (.tup [.d (axN l win home fast creep), .d (.int .i64 (if madeR l win home fast creep then 0 else 1))]), []) := by
  have hg := genRight_r l
  rw [run8 (by simp)]
  by_cases hw : 1 ≤ win ∧ win ≤ 16
  · cases hl : limR l with
    | false => simp [Tryz.f8, smoothNew_r, limD, hg, hl, hw, axN, madeR, axis0, drwK_end] at hg ⊢; simp [hg]
    | true =>
      by_cases h1 : home < l.lo
      · have h1' : ¬ l.lo ≤ home := by omega
        simp [Tryz.f8, smoothNew_r, limD, hl, hw, axN, madeR, axis0, drwK_end, h1, h1'] at hg ⊢; simp [hg, h1]
      · have h1' : l.lo ≤ home := by omega
        by_cases h2 : l.hi < home
        · have h2' : ¬ home ≤ l.hi := by omega
          simp [Tryz.f8, smoothNew_r, limD, hl, hw, axN, madeR, axis0, drwK_end, h1, h1', h2, h2'] at hg ⊢; simp [hg, h1, h2]
        · have h2' : home ≤ l.hi := by omega
          cases h3 : homeR fast creep with
          | false => simp [Tryz.f8, smoothNew_r, homeNew_r, limD, hl, hw, axN, madeR, axis0, drwK_end, h1, h1', h2, h2', h3] at hg ⊢; simp [hg, h1, h2, homeNew_r, h3, drwK_end]
          | true => simp [Tryz.f8, smoothNew_r, homeNew_r, limD, hl, hw, axN, madeR, axisD, drwK_end, h1, h1', h2, h2', h3] at hg ⊢; simp [hg, h1, h2, homeNew_r, h3, drwK_end]
  · simp [Tryz.f8, smoothNew_r, limD, hw, axN, madeR, axis0, drwK_end]
def driveN (w c : Int) : D := if driveR w c then .agg [.int .i64 0, .int .i64 w, .int .i64 0, .int .i64 (-1), .int .i64 c, .bool false, .int .i64 0, .int .i64 c, .bool false, .int .i64 0, .int .i64 c, .bool false, .int .i64 0, .int .i64 0, .bool false, .int .i64 0]
  else .agg [.int .i64 0, .int .i64 0, .int .i64 0, .int .i64 0, .int .i64 0, .bool false, .int .i64 0, .int .i64 0, .bool false, .int .i64 0, .int .i64 0, .bool false, .int .i64 0, .int .i64 0, .bool false, .int .i64 0]
theorem driveNew_r (w c : Int) : callT ctx 9 [.d (.int .i64 w), .d (.int .i64 c)] [] = some (.ret (.tup [.d (driveN w c), .d (.int .i64 (if driveR w c then 0 else 1))]), []) := by
  rw [run9 (by simp)]
  by_cases hw : 1 ≤ w ∧ w ≤ 100
  · by_cases hc : 1 ≤ c ∧ c ≤ 20
    · simp [Tryz.f9, watchNew_r, bounceNew_r, driveN, driveR, hw, hc, drwK_end]
    · simp [Tryz.f9, watchNew_r, bounceNew_r, driveN, driveR, hw, hc, drwK_end]
  · simp [Tryz.f9, watchNew_r, bounceNew_r, driveN, driveR, hw, drwK_end]
theorem rightAxis_r (a : Ax) : callT ctx 21 [.d (axD a)] [] = some (.ret (.d (.bool (axR a))), []) := by
  have h1 := axisNew_r a.l a.win a.home a.fast a.creep
  have h2 := driveNew_r a.watch a.count
  rw [run21 (by simp)]
  unfold axR
  cases hm : madeR a.l a.win a.home a.fast a.creep <;> cases hd : driveR a.watch a.count <;>
    simp [hm, hd, axN, axisD, axis0, driveN, limD] at h1 h2 <;>
    simp [Tryz.f21, axD, h1, h2, drwK_end]
theorem rightFuel_r (n : Int) : callT ctx 18 [.d (.int .i64 n)] [] = some (.ret (.d (.bool (decide (1 ≤ n ∧ n ≤ 16384)))), []) := by
  rw [run18 (by simp)]
  simp [Tryz.f18, drwK_end]
theorem small_r (n : Int) : callT ctx 57 [.d (.int .i64 n)] [] = some (.ret (.d (.int .i64 (smP n))), []) := by
  rw [run57 (by simp)]
  simp [Tryz.f57, smP, drwK_end]
  grind
end Go.Am
end
section
namespace Go.Am
open Go Go.Proofs
variable [Inhabited Mx2]
set_option maxRecDepth 20000
def ixA : List Ax → Nat → Int
  | [], _ => -1
  | a :: r, i => if axR a = true then ixA r (i + 1) else i
theorem ixA_all : ∀ (l : List Ax) (i : Nat), decide (0 ≤ ixA l i) = !(l.all axR)
  | [], i => rfl
  | a :: r, i => by
    have ih := ixA_all r (i + 1)
    unfold ixA
    by_cases h : axR a = true
    · rw [if_pos h, ih]; simp [h]
    · rw [if_neg h]; simp [h]
theorem right1_r (a : Ax) : callT ctx 20 [.d (axD a)] [] = some (.ret (.d (.bool (!(axR a)))), []) := by
  have h := rightAxis_r a
  rw [run20 (by simp)]
  simp [axD] at h
  simp [Tryz.f20, axD, h, drwK_end]
theorem ixA_loop (A : List Ax) (hA : A.length ≤ 100000) (k : Kt) (R : Int → Ans)
    (h1 : ∀ i : Nat, k .ret ⟨19, gl0, [(4, true, .d (.int .i64 i))], []⟩ = R i)
    (h2 : k (.exit 0) ⟨19, gl0, [(0, true, .d (.list (A.map axD))), (1, true, .fn 20 []), (7, true, .d (.int .i64 A.length)), (8, true, .d (.int .i64 A.length)), (9, true, .d (.bool false))], []⟩ = R (-1)) :
    ∀ (r p : List Ax), A = p ++ r →
    denK ctx 41 (.loop (Code.at (codeOf Tryz.f41) [1, 0, 1, 0, 0])) ⟨19, gl0, [(0, true, .d (.list (A.map axD))), (1, true, .fn 20 []), (7, true, .d (.int .i64 A.length)), (8, true, .d (.int .i64 p.length))], []⟩ k = R (ixA r p.length)
  | [], p, e => by
    obtain rfl : A = p := by simpa using e
    rw [denK_loop]
    simp [Tryz.f41, ixA] at h2 ⊢
    simp [h2]
  | x :: r, p, e => by
    have ih := ixA_loop A hA k R h1 h2 r (p ++ [x]) (by simp [e])
    have hc := right1_r x
    have hlA : A.length = p.length + (r.length + 1) := by rw [e]; simp
    have w1 : (p.length : Int) < A.length := by omega
    have w1n : p.length < A.length := by omega
    have w2 : IntKind.i64.wrap ((p.length : Int) + 1) = p.length + 1 := wrap_id (by unfold I64; omega)
    have gA : A[p.length] = x := by
      have : A[p.length]? = some x := by rw [e]; simp
      exact (List.getElem?_eq_some_iff.1 this).2
    rw [denK_loop]
    unfold ixA
    by_cases he : axR x = true
    · rw [he] at hc
      simp [axD] at hc
      simp [Tryz.f41] at ih ⊢
      simp [w1, w1n, w2, gA, ih, drwK_end, axD, hc, he]
    · have he' : axR x = false := by simpa using he
      rw [he'] at hc
      have h1 := h1 p.length
      simp [axD] at hc
      simp [Tryz.f41] at h1 ⊢
      simp [w1, w1n, w2, gA, h1, drwK_end, axD, hc, he']
theorem ixA_r (l : List Ax) (hl : l.length ≤ 100000) : callT ctx 41 [.d (.list (l.map axD)), .fn 20 []] [] = some (.ret (.d (.int .i64 (ixA l 0))), []) := by
  have hlp := fun k h1 h2 => ixA_loop l hl k (fun i => some (.ret (.d (.int .i64 i)), [])) h1 h2 l [] rfl
  rw [run41 (by simp)]
  simp [Tryz.f41] at hlp ⊢
  rw [hlp] <;> simp
theorem ctA_r (l : List Ax) (hl : l.length ≤ 100000) : callT ctx 19 [.d (.list (l.map axD)), .fn 20 []] [] = some (.ret (.d (.bool (!(l.all axR)))), []) := by
  have h := ixA_r l hl
  rw [run19 (by simp)]
  simp [Tryz.f19, h, drwK_end, ixA_all]
theorem confRight_r (c : Cn) (hl : c.axes.length ≤ 100000) : callT ctx 7 [.d (cnD c)] [] = some (.ret (.d (.bool (cnR c))), []) := by
  have h := ctA_r c.axes hl
  have h0 := rightFuel_r c.fuel
  rw [run7 (by simp)]
  simp [Tryz.f7, cnD, h, h0, drwK_end]
  try simp only [hoistB, retB_iff]
  grind (splits := 40) [cnR]
end Go.Am
end
section
namespace Go.Am
open Go
def axNums (a : Ax) : List Int := [a.l.vel, a.l.acc, a.l.dec, a.l.lo, a.l.hi, a.win, a.home, a.fast, a.creep, a.watch, a.count, a.follow]
def numT (n : Int) : List UInt8 := 32 :: Go.Lib.itoa n
def axL (a : Ax) : List UInt8 := [97, 120, 105, 115] ++ (axNums a).flatMap numT
def axT (a : Ax) : List UInt8 := axL a ++ [10]
def fuL (c : Cn) : List UInt8 := [102, 117, 101, 108, 32] ++ Go.Lib.itoa c.fuel
def showT (c : Cn) : List UInt8 := fuL c ++ [10] ++ c.axes.flatMap axT
def J64 (n : Int) : Prop := -9223372036854775808 ≤ n ∧ n ≤ 9223372036854775807
theorem dec_len {u : Nat} (h : u ≤ 9223372036854775808) : (Go.Lib.decDigits u).length ≤ 19 := by
  obtain ⟨c1, c2, c3⟩ := dec_canon u
  exact len_low c1 (by rw [c2]; exact h)
theorem itoa_cases (n : Int) : (0 ≤ n ∧ Go.Lib.itoa n = Go.Lib.decDigits n.toNat) ∨ (n < 0 ∧ Go.Lib.itoa n = 45 :: Go.Lib.decDigits n.natAbs) := by
  unfold Go.Lib.itoa
  split
  · exact .inr ⟨by assumption, rfl⟩
  · exact .inl ⟨by omega, rfl⟩
theorem itoa_len {n : Int} (h : J64 n) : (Go.Lib.itoa n).length ≤ 20 := by
  rcases itoa_cases n with ⟨h0, e⟩ | ⟨h0, e⟩
  · rw [e]; have := dec_len (u := n.toNat) (by have := h.2; omega); omega
  · rw [e]; have := dec_len (u := n.natAbs) (by have := h.1; omega); simp; omega
theorem dec_ok (u : Nat) : Go.Lib.decDigits u ≠ [] ∧ ∀ c ∈ Go.Lib.decDigits u, c ≠ 32 ∧ c ≠ 10 := by
  obtain ⟨⟨c1, c2, _⟩, _, _⟩ := dec_canon u
  refine ⟨c1, fun c hc => ?_⟩
  have := c2 c hc
  refine ⟨fun e => ?_, fun e => ?_⟩ <;> (subst e; revert this; decide)
theorem itoa_ok (n : Int) : Go.Lib.itoa n ≠ [] ∧ ∀ c ∈ Go.Lib.itoa n, c ≠ 32 ∧ c ≠ 10 := by
  rcases itoa_cases n with ⟨_, e⟩ | ⟨_, e⟩
  · rw [e]; exact dec_ok _
  · rw [e]
    refine ⟨by simp, fun c hc => ?_⟩
    rcases List.mem_cons.1 hc with rfl | hc
    · decide
    · exact (dec_ok _).2 c hc
theorem numF_itoa {n : Int} (h : J64 n) : numF (Go.Lib.itoa n) = some n := by
  rw [num_eq]
  rcases itoa_cases n with ⟨h0, e⟩ | ⟨h0, e⟩
  · obtain ⟨c1, c2, c3⟩ := dec_canon n.toNat
    rw [e]
    unfold numR
    rw [if_neg (dig_ne c1).1, if_pos ⟨c1, dec_len (by have := h.2; omega), by rw [c2]; have := h.2; omega⟩, c2]
    congr 1; omega
  · obtain ⟨c1, c2, c3⟩ := dec_canon n.natAbs
    rw [e]
    unfold numR
    rw [if_pos (by rfl)]
    simp only [List.tail_cons]
    have hc : canon (Go.Lib.decDigits n.natAbs) ∧ (Go.Lib.decDigits n.natAbs).head? ≠ some 48 ∧ (Go.Lib.decDigits n.natAbs).length ≤ 19 ∧ valA (Go.Lib.decDigits n.natAbs) 0 ≤ 9223372036854775808 := ⟨c1, c3 (by omega), dec_len (by have := h.1; omega), by rw [c2]; have := h.1; omega⟩
    simp only [hc, c2, and_self, ne_eq, not_false_eq_true, if_true]
    rw [if_pos ⟨trivial, trivial, trivial, by have := h.1; omega⟩]; congr 1; omega
theorem numsF_itoa : ∀ {l : List Int}, (∀ n ∈ l, J64 n) → numsF (l.map Go.Lib.itoa) = some l
  | [], _ => rfl
  | n :: l, h => by
    have ih := numsF_itoa (l := l) (fun x hx => h x (by simp [hx]))
    simp only [List.map_cons, numsF]
    rw [numF_itoa (h n (by simp)), ih]
theorem ax_J {a : Ax} (h : axR a = true) : ∀ n ∈ axNums a, J64 n := by
  simp only [axR, madeR, driveR, limR, homeR, Bool.and_eq_true, decide_eq_true_eq] at h
  obtain ⟨⟨h1, h2, h3, h4⟩, ⟨h5, h6⟩, h7⟩ := h
  intro n hn
  simp only [axNums, List.mem_cons, List.not_mem_nil, or_false] at hn
  unfold J64
  split at h4 <;> simp only [decide_eq_true_eq] at h4 <;> rcases hn with rfl | rfl | rfl | rfl | rfl | rfl | rfl | rfl | rfl | rfl | rfl | rfl <;> omega
theorem ax_back {a : Ax} (h : axR a = true) : axOf smP (axNums a) = a := by
  simp only [axR, madeR, driveR, Bool.and_eq_true, decide_eq_true_eq] at h
  obtain ⟨⟨h1, _⟩, ⟨h5, h6⟩, _⟩ := h
  obtain ⟨⟨_, _, _, _, _⟩, _, _, _, _, _, _, _⟩ := a
  simp only at h1 h5 h6
  simp only [axNums, axOf, smP, Ax.mk.injEq, true_and, and_true]
  refine ⟨?_, ?_, ?_⟩ <;> omega
theorem words_nums : ∀ (l : List Int) (cur : List UInt8), cur ≠ [] → wordsA (l.flatMap numT) cur = cur :: l.map Go.Lib.itoa
  | [], cur, h => by simp [wordsA, h]
  | n :: l, cur, h => by
    have h0 := itoa_ok n
    have ih := words_nums l (Go.Lib.itoa n) h0.1
    have e : (n :: l).flatMap numT = 32 :: (Go.Lib.itoa n ++ l.flatMap numT) := by simp [numT]
    rw [e]
    have hw : wordsA (Go.Lib.itoa n ++ l.flatMap numT) [] = wordsA (l.flatMap numT) (Go.Lib.itoa n) := by
      have := wordsA_app (Go.Lib.itoa n) (l.flatMap numT) [] (fun x hx => (h0.2 x hx).1)
      simpa using this
    simp only [wordsA, if_true, hw, ih, h, if_false, List.map_cons]
theorem words_ax (a : Ax) : wordsF (axL a) = [97, 120, 105, 115] :: (axNums a).map Go.Lib.itoa := by
  unfold wordsF axL
  rw [wordsA_app _ _ _ (by decide)]
  exact words_nums _ _ (by simp)
theorem words_fu (c : Cn) : wordsF (fuL c) = [[102, 117, 101, 108], Go.Lib.itoa c.fuel] := by
  have e : fuL c = [102, 117, 101, 108] ++ [c.fuel].flatMap numT := by simp [fuL, numT]
  unfold wordsF
  rw [e, wordsA_app _ _ _ (by decide)]
  exact words_nums _ _ (by simp)
theorem nums_ok (l : List Int) : ∀ x ∈ l.flatMap numT, x ≠ 10 := by
  intro x hx
  rw [List.mem_flatMap] at hx
  obtain ⟨n, _, hx⟩ := hx
  rcases List.mem_cons.1 hx with rfl | hx
  · decide
  · exact ((itoa_ok n).2 x hx).2
theorem axL_ok (a : Ax) : ∀ x ∈ axL a, x ≠ 10 := by
  intro x hx
  rcases List.mem_append.1 hx with hx | hx
  · exact (by decide : ∀ x ∈ ([97, 120, 105, 115] : List UInt8), x ≠ 10) x hx
  · exact nums_ok _ x hx
theorem fuL_ok (c : Cn) : ∀ x ∈ fuL c, x ≠ 10 := by
  intro x hx
  rcases List.mem_append.1 hx with hx | hx
  · exact (by decide : ∀ x ∈ ([102, 117, 101, 108, 32] : List UInt8), x ≠ 10) x hx
  · exact ((itoa_ok _).2 x hx).2
theorem nums_len : ∀ {l : List Int}, (∀ n ∈ l, J64 n) → (l.flatMap numT).length ≤ 21 * l.length
  | [], _ => by simp
  | n :: l, h => by
    have ih := nums_len (l := l) (fun x hx => h x (by simp [hx]))
    have := itoa_len (h n (by simp))
    have e : ((n :: l).flatMap numT).length = 1 + (Go.Lib.itoa n).length + (l.flatMap numT).length := by simp [numT]; omega
    rw [e]; simp only [List.length_cons]; omega
theorem axL_len {a : Ax} (h : axR a = true) : (axL a).length ≤ 256 := by
  have := nums_len (ax_J h)
  have e : (axNums a).length = 12 := rfl
  rw [e] at this
  unfold axL
  simp only [List.length_append, List.length_cons, List.length_nil]
  omega
theorem cut_line (u r : List UInt8) (h : ∀ x ∈ u, x ≠ 10) : cutC 10 (u ++ [10] ++ r) = u :: cutC 10 r := by
  unfold cutC
  rw [List.append_assoc, cutA_app 10 u _ [] h]
  simp [cutA]
theorem cut_axes : ∀ l : List Ax, cutC 10 (l.flatMap axT) = l.map axL ++ [[]]
  | [] => rfl
  | a :: l => by
    have ih := cut_axes l
    have e : (a :: l).flatMap axT = axL a ++ [10] ++ l.flatMap axT := by simp [axT]
    rw [e, cut_line _ _ (axL_ok a), ih]
    rfl
theorem lines_axes (f : Int) : ∀ (l : List Ax) (i : Nat) (p : List Ax), (∀ a ∈ l, axR a = true) → 0 < f → p.length + l.length ≤ 4 → p ++ l ≠ [] → i + l.length ≤ 100 → linesF smP (l.map axL ++ [[]]) i ⟨f, p⟩ = (⟨f, p ++ l⟩, 0, 0)
  | [], i, p, _, hf, _, hne, hi => by
    simp only [List.append_nil] at hne
    simp only [List.map_nil, List.nil_append, List.append_nil, linesF, List.length_nil]
    rw [if_neg (by simp at hi; omega), if_pos (by decide), if_neg (by simp only [not_or]; exact ⟨by omega, hne⟩)]
  | a :: l, i, p, h, hf, hp, hne, hi => by
    have ha := h a (by simp)
    have ih := lines_axes f l (i + 1) (p ++ [a]) (fun x hx => h x (by simp [hx])) hf (by simp at hp ⊢; omega) (by simp) (by simp at hi; omega)
    have hq : ¬ quiet (wordsF (axL a)) := by rw [words_ax]; unfold quiet; simp
    have hl : lineF smP ⟨f, p⟩ (wordsF (axL a)) = (⟨f, p ++ [a]⟩, 0) := by
      rw [words_ax]
      unfold lineF
      simp only [List.tail_cons, numsF_itoa (ax_J ha), List.head?_cons]
      rw [if_neg (by simp), if_pos (by exact ⟨trivial, rfl⟩), ax_back ha, ha]
      simp only [Bool.true_eq_false, if_false]
      rw [if_neg (by simp at hp; omega)]
    have hlen := axL_len ha
    simp only [List.map_cons, List.cons_append]
    unfold linesF
    rw [if_neg (by simp at hi; omega), if_neg hq, hl, if_pos rfl, ih]
    simp
theorem axes_len : ∀ {l : List Ax}, (∀ a ∈ l, axR a = true) → (l.flatMap axT).length ≤ 257 * l.length
  | [], _ => by simp
  | a :: l, h => by
    have ih := axes_len (l := l) (fun x hx => h x (by simp [hx]))
    have := axL_len (h a (by simp))
    have e : ((a :: l).flatMap axT).length = (axL a).length + 1 + (l.flatMap axT).length := by simp [axT]; omega
    rw [e]; simp only [List.length_cons]; omega
theorem show_len {c : Cn} (h : cnR c = true) : (showT c).length ≤ 999999999 := by
  simp only [cnR, Bool.and_eq_true, decide_eq_true_eq, List.all_eq_true] at h
  obtain ⟨h1, h2, h3⟩ := h
  have ha := axes_len h3
  have hj := itoa_len (n := c.fuel) ⟨by omega, by omega⟩
  have e : (showT c).length = 5 + (Go.Lib.itoa c.fuel).length + 1 + (c.axes.flatMap axT).length := by simp [showT, fuL]; omega
  omega
theorem conf_back {c : Cn} (h : cnR c = true) : confF smP (showT c) = (c, 0, 0) := by
  simp only [cnR, Bool.and_eq_true, decide_eq_true_eq, List.all_eq_true] at h
  obtain ⟨h1, h2, h3⟩ := h
  obtain ⟨f, l⟩ := c
  simp only at h1 h2 h3
  unfold confF showT
  rw [cut_line _ _ (fuL_ok _), cut_axes]
  have hl := lines_axes f l 1 [] h3 (by omega) (by simpa using h2.2) (by simp only [List.nil_append]; intro e; subst e; simp at h2) (by omega)
  have hj : J64 f := ⟨by omega, by omega⟩
  have hq : ¬ quiet (wordsF (fuL ⟨f, l⟩)) := by rw [words_fu]; unfold quiet; simp
  have hF : lineF smP cn0 (wordsF (fuL ⟨f, l⟩)) = (⟨f, []⟩, 0) := by
    rw [words_fu]
    unfold lineF
    have : numsF (List.tail [[102, 117, 101, 108], Go.Lib.itoa f]) = some [f] := numsF_itoa (l := [f]) (by simpa using hj)
    simp only at this ⊢
    rw [this]
    simp only [List.head?_cons, List.length_cons, List.length_nil, List.headD_cons, cn0]
    simp [h1]
  have hlen : (fuL ⟨f, l⟩).length ≤ 256 := by
    have := itoa_len hj
    simp [fuL]; omega
  unfold linesF
  rw [if_neg (by omega), if_neg hq, hF, if_pos rfl, hl]
  simp
end Go.Am
end
section
namespace Go.Am
open Go Go.Proofs
variable [Inhabited Mx2]
set_option maxRecDepth 20000
theorem numT_len {n : Int} (h : J64 n) : (numT n).length ≤ 21 := by have := itoa_len h; simp [numT]; omega
theorem J_I {n : Int} (h : J64 n) : I64' n := h
theorem shI_loop (A B C : AV) (v1 v2 v3 : Nat) (c1 c2 c3 : Cont) (ns : List Int) (hJ : ∀ n ∈ ns, J64 n) (hl : ns.length ≤ 100) (k : Kt) (R : Ans) (T : List UInt8)
    (hx : k (.exit 2) ⟨69, gl0, [(4, true, .d (.str T)), (19, true, A), (20, true, B), (21, true, C), (53, true, .d (.list (ns.map fun n => D.int .i64 n))), (54, true, .d (.int .i64 ns.length)), (55, true, .d (.int .i64 ns.length)), (56, true, .d (.bool false))], [⟨150, v1, c1⟩, ⟨400, v2, c2⟩, ⟨450, v3, c3⟩]⟩ = R) :
    ∀ (r p : List Int) (s : List UInt8), ns = p ++ r → s ++ r.flatMap numT = T → s.length + 21 * r.length ≤ 1000000 →
    denK ctx 6 (.loop (Code.at (codeOf Tryz.f6) [1, 1, 1, 0, 1, 0, 0, 1, 1, 0, 0, 1, 1, 1, 0, 1, 0, 0])) ⟨69, gl0, [(4, true, .d (.str s)), (19, true, A), (20, true, B), (21, true, C), (53, true, .d (.list (ns.map fun n => D.int .i64 n))), (54, true, .d (.int .i64 ns.length)), (55, true, .d (.int .i64 p.length))], [⟨150, v1, c1⟩, ⟨400, v2, c2⟩, ⟨450, v3, c3⟩]⟩ k = R
  | [], p, s, e, eT, _ => by
    obtain rfl : ns = p := by simpa using e
    obtain rfl : s = T := by simpa using eT
    rw [denK_loop]
    simp [Tryz.f6]
    simp [hx]
  | n :: r, p, s, e, eT, hs => by
    have hn := hJ n (by simp [e])
    have ht := numT_len hn
    have hI := J_I hn
    have ih := shI_loop A B C v1 v2 v3 c1 c2 c3 ns hJ hl k R T hx r (p ++ [n]) (s ++ numT n) (by simp [e]) (by simpa using eT) (by simp at hs ⊢; omega)
    have hlA : ns.length = p.length + (r.length + 1) := by rw [e]; simp
    have w1 : (p.length : Int) < ns.length := by omega
    have w1n : p.length < ns.length := by omega
    have w2 : IntKind.i64.wrap ((p.length : Int) + 1) = p.length + 1 := wrap_id (by unfold I64; omega)
    have gA : ns[p.length] = n := by
      have : ns[p.length]? = some n := by rw [e]; simp
      exact (List.getElem?_eq_some_iff.1 this).2
    have hl1 : 1 + (Go.Lib.itoa n).length ≤ 4611686018427387904 := by simp [numT] at ht; omega
    have hl2 : s.length + ((Go.Lib.itoa n).length + 1) ≤ 4611686018427387904 := by simp [numT] at ht; simp at hs; omega
    have hl3 : s.length + (1 + (Go.Lib.itoa n).length) ≤ 4611686018427387904 := by omega
    rw [denK_loop]
    simp [Tryz.f6, numT] at ih ⊢
    simp [w1, w1n, w2, gA, hI, hl1, hl2, hl3, ih, drwK_end]
theorem shO_loop (L : List Ax) (hL : L.length ≤ 4) (hR : ∀ a ∈ L, axR a = true) (v1 : Nat) (c1 : Cont) (k : Kt) (R : List UInt8 → Ans)
    (hx : ∀ (s : List UInt8) (v2 v3 : Nat) (c2 c3 : Cont), k (.exit 0) ⟨69, gl0, [(4, true, .d (.str s)), (19, true, .d (.list (L.map axD))), (20, true, .d (.int .i64 L.length)), (21, true, .d (.int .i64 L.length)), (22, true, .d (.bool false))], [⟨150, v1, c1⟩, ⟨400, v2, c2⟩, ⟨450, v3, c3⟩]⟩ = R s) :
    ∀ (r p : List Ax) (s : List UInt8) (v2 v3 : Nat) (c2 c3 : Cont), L = p ++ r → s.length ≤ 1000 * (p.length + 1) →
    denK ctx 6 (.loop (Code.at (codeOf Tryz.f6) [1, 1, 1, 0, 1, 0, 0])) ⟨69, gl0, [(4, true, .d (.str s)), (19, true, .d (.list (L.map axD))), (20, true, .d (.int .i64 L.length)), (21, true, .d (.int .i64 p.length))], [⟨150, v1, c1⟩, ⟨400, v2, c2⟩, ⟨450, v3, c3⟩]⟩ k = R (s ++ r.flatMap axT)
  | [], p, s, v2, v3, c2, c3, e, _ => by
    obtain rfl : L = p := by simpa using e
    have hx := hx s v2 v3 c2 c3
    rw [denK_loop]
    simp [Tryz.f6]
    simp [hx]
  | a :: r, p, s, v2, v3, c2, c3, e, hs => by
    have ha := hR a (by simp [e])
    have hla := axL_len ha
    have ih := fun v2 v3 c2 c3 => shO_loop L hL hR v1 c1 k R hx r (p ++ [a]) (s ++ axT a) v2 v3 c2 c3 (by simp [e]) (by simp [axT]; omega)
    have hlA : L.length = p.length + (r.length + 1) := by rw [e]; simp
    have w1 : (p.length : Int) < L.length := by omega
    have w1n : p.length < L.length := by omega
    have w2 : IntKind.i64.wrap ((p.length : Int) + 1) = p.length + 1 := wrap_id (by unfold I64; omega)
    have gA : L[p.length] = a := by
      have : L[p.length]? = some a := by rw [e]; simp
      exact (List.getElem?_eq_some_iff.1 this).2
    have hin := fun A B C v2 v3 c2 c3 k R hx => shI_loop A B C v1 v2 v3 c1 c2 c3 (axNums a) (ax_J ha) (by simp [axNums]) k R (s ++ axL a) hx (axNums a) [] (s ++ [97, 120, 105, 115]) rfl (by simp [axL]) (by simp [axNums]; omega)
    have hl1 : s.length ≤ 4611686018427387900 := by omega
    have hl2 : s.length + (axL a).length ≤ 4611686018427387903 := by omega
    have r12 : List.range' 0 12 = [0, 1, 2, 3, 4, 5, 6, 7, 8, 9, 10, 11] := rfl
    rw [denK_loop]
    simp [Tryz.f6, axNums] at ih hin ⊢
    simp [w1, w1n, w2, gA, axD, hl1, r12, drwK_end]
    rw [hin]
    simp [axT] at ih
    simp [w2, hl2, ih, axT]
theorem confShow_r (c : Cn) (hl : c.axes.length ≤ 100000) : callT ctx 6 [.d (cnD c)] [] = some (.ret (.tup [.d (.str (if cnR c = true then showT c else [])), .d (.int .i64 (if cnR c = true then 0 else 1))]), []) := by
  have h := confRight_r c hl
  rw [run6 (by simp)]
  simp [cnD] at h
  by_cases hc : cnR c = true
  · rw [hc] at h
    have hc' := hc
    simp only [cnR, Bool.and_eq_true, decide_eq_true_eq, List.all_eq_true] at hc'
    obtain ⟨h1, h2, h3⟩ := hc'
    have hJ : J64 c.fuel := ⟨by omega, by omega⟩
    have hI := J_I hJ
    have hlen := itoa_len hJ
    have hl1 : 5 + (Go.Lib.itoa c.fuel).length ≤ 4611686018427387904 := by omega
    have hl2 : 5 + ((Go.Lib.itoa c.fuel).length + 1) ≤ 4611686018427387904 := by omega
    have hl3 : (Go.Lib.itoa c.fuel).length ≤ 4611686018427387000 := by omega
    have hlp := fun v1 c1 k R hx v2 v3 c2 c3 => shO_loop c.axes h2.2 h3 v1 c1 k R hx c.axes [] (fuL c ++ [10]) v2 v3 c2 c3 rfl (by simp [fuL]; omega)
    simp [Tryz.f6, cnD, fuL] at hlp ⊢
    simp [h, hc, hI, hl1, hl2, hl3, drwK_end]
    refine ⟨by omega, ?_⟩
    rw [hlp _ _ _ (fun s => some (.ret (.tup [.d (.str s), .d (.int .i64 0)]), []))]
    · simp [showT, fuL]
    · intro s v2 v3 c2 c3
      simp
  · rw [show cnR c = false by simpa using hc] at h
    simp [Tryz.f6, cnD, h, hc, drwK_end]
end Go.Am
end
section
namespace Go.Am
open Go Go.Proofs
variable [Inhabited Mx2]
set_option maxRecDepth 20000
@[simp] theorem up_err {ρ bs : List Nat} : up ρ bs .err = .err := rfl
@[simp] theorem vw_err {m ρ bor nv} : vw m ρ bor nv .err = .err := rfl
theorem i64_of {s : List UInt8} {n : Int} (h : Go.Lib.parseIntB 64 s = .ok n) : I64' n := by
  rcases parseI_ok h with ⟨_, u, rfl, hu⟩ | ⟨_, u, rfl, hu⟩ <;> (unfold I64'; omega)
theorem number_r (s : List UInt8) (hs : s.length ≤ 281474976710656) : callT ctx 56 [.d (.str s)] [] = some (.ret (.tup [.d (.int .i64 ((numF s).getD 0)), .d (.bool (numF s).isSome)]), []) := by
  rw [run56 (by simp)]
  unfold numF
  rcases hp : Go.Lib.parseIntB 64 s with n | _ | _
  · have hn := i64_of hp
    by_cases hi : Go.Lib.itoa n = s
    · simp [Tryz.f56, hs, piA, hp, hn, hi, drwK_end]
    · simp [Tryz.f56, hs, piA, hp, hn, hi, drwK_end]
  · simp [Tryz.f56, hs, piA, hp, drwK_end]
  · simp [Tryz.f56, hs, piA, hp, drwK_end]
theorem nums_loop (W : List (List UInt8)) (hW : W.length ≤ 1000000) (hw : ∀ w ∈ W, w.length ≤ 281474976710656) (k : Kt) (R : Ans) : ∀ (rest pre : List (List UInt8)) (acc : List Int) (v : Nat), W = pre ++ rest → acc.length = pre.length →
    (match numsF rest with
      | some l => ∀ v, k (.exit 0) ⟨28, gl0, [(4, true, .vec 300 v 0 (acc ++ l).length), (9, true, .d (.list (W.map D.str))), (10, true, .d (.int .i64 W.length)), (11, true, .d (.int .i64 W.length)), (12, true, .d (.bool false))], [⟨300, v, .vec 1 ((acc ++ l).map fun n => D.int .i64 n)⟩]⟩ = R
      | none => ∀ M, k .ret ⟨28, gl0, [(2, true, .lit (.slice none 0 0)), (3, true, .d (.bool false))], M⟩ = R) →
    denK ctx 37 (.loop (Code.at (codeOf Tryz.f37) [1, 1, 0, 1, 0, 0])) ⟨28, gl0, [(4, true, .vec 300 v 0 acc.length), (9, true, .d (.list (W.map D.str))), (10, true, .d (.int .i64 W.length)), (11, true, .d (.int .i64 pre.length))], [⟨300, v, .vec 1 (acc.map fun n => D.int .i64 n)⟩]⟩ k = R
  | [], pre, acc, v, e, ha, hx => by
    subst e
    simp [numsF] at hx
    rw [denK_loop]
    simp [Tryz.f37, hx]
  | w :: rest, pre, acc, v, e, ha, hx => by
    have hn := number_r w (hw w (by rw [e]; simp))
    have hl : W.length = pre.length + (rest.length + 1) := by rw [e]; simp
    have h1 : (pre.length : Int) < W.length := by omega
    have h1' : pre.length < W.length := by omega
    have h2 : IntKind.i64.wrap ((pre.length : Int) + 1) = pre.length + 1 := wrap_id (by unfold I64; omega)
    have h3 : acc.length + 1 ≤ 4611686018427387904 ∧ (acc.length + 1) * 8 ≤ 140737488355328 := by omega
    have hg : W[pre.length] = w := by
      have : W[pre.length]? = some w := by rw [e]; simp
      exact (List.getElem?_eq_some_iff.1 this).2
    unfold numsF at hx
    rw [denK_loop]
    cases hf : numF w with
    | none =>
      rw [hf] at hx hn
      simp at hx hn
      simp [Tryz.f37, h1, h1', hg, hn, hx]
    | some n =>
      rw [hf] at hx hn
      simp at hx hn
      have ih := nums_loop W hW hw k R rest (pre ++ [w]) (acc ++ [n]) (v + 1) (by simp [e]) (by simp [ha]) (by
        cases hr : numsF rest with
        | none => rw [hr] at hx; exact hx
        | some l => rw [hr] at hx; simpa using hx)
      simp [Tryz.f37] at ih ⊢
      simp [h1, h1', h2, h3, hg, hn, ih]
end Go.Am
end
section
namespace Go.Am
open Go Go.Proofs
variable [Inhabited Mx2]
set_option maxRecDepth 20000
theorem numbers_r (W : List (List UInt8)) (hW : W.length ≤ 1000000) (hw : ∀ w ∈ W, w.length ≤ 281474976710656) :
    callT ctx 37 [.d (.list (W.map D.str))] [] = match numsF W with
      | some l => some (.ret (.tup [.d (.list (l.map fun n => D.int .i64 n)), .d (.bool true)]), [])
      | none => some (.ret (.tup [.d (.list []), .d (.bool false)]), []) := by
  have hl := fun k R hx => nums_loop W hW hw k R W [] [] 1 rfl rfl hx
  rw [run37 (by simp)]
  cases hn : numsF W with
  | some l =>
    simp [Tryz.f37, hn] at hl ⊢
    rw [hl _ (some (.ret (.tup [.d (.list (l.map fun n => D.int .i64 n)), .d (.bool true)]), [])) (by simp)]
  | none =>
    simp [Tryz.f37, hn] at hl ⊢
    rw [hl _ (some (.ret (.tup [.d (.list []), .d (.bool false)]), [])) (by simp)]
theorem axisOf_r (l : List Int) (h : l.length = 12) : callT ctx 38 [.d (.list (l.map fun n => D.int .i64 n))] [] = some (.ret (.d (axD (axOf smP l))), []) := by
  obtain ⟨a, b, c, d, e, f, g, h, i, j, k, m, rfl⟩ : ∃ a b c d e f g h i j k m, l = [a, b, c, d, e, f, g, h, i, j, k, m] := by
    match l, h with
    | [a, b, c, d, e, f, g, h, i, j, k, m], _ => exact ⟨a, b, c, d, e, f, g, h, i, j, k, m, rfl⟩
  rw [run38 (by simp)]
  simp [Tryz.f38, small_r, axOf, axD, drwK_end]
end Go.Am
end
section
namespace Go.Am
open Go Go.Proofs
variable [Inhabited Mx2]
set_option maxRecDepth 20000
theorem numsF_len : ∀ {W : List (List UInt8)} {l : List Int}, numsF W = some l → l.length = W.length
  | [], l, h => by cases h; rfl
  | w :: W, l, h => by
    unfold numsF at h
    split at h
    · split at h
      · rename_i hl
        cases h
        simp [numsF_len hl]
      · cases h
    · cases h
def cM (c : Cn) (ver : Nat) : List (Nat × Cont) := [(0, .box [.d (.int .i64 c.fuel), .vec 1 ver 0 c.axes.length]), (ver, .vec 12 (c.axes.map axD))]
theorem line_r (c : Cn) (w : List UInt8) (ws : List (List UInt8)) (hc : c.axes.length ≤ 4) (hW : ws.length ≤ 1000) (hw : ∀ x ∈ ws, x.length ≤ 281474976710656) :
    ∃ ver, callT ctx 15 [.ptr 0 0 0, .d (.list ((w :: ws).map D.str))] [.box [.d (.int .i64 c.fuel), .vec 1 0 0 c.axes.length], .vec 12 (c.axes.map axD)] = some (.ret (.d (.int .i64 (lineF smP c (w :: ws)).2)), cM (lineF smP c (w :: ws)).1 ver) := by
  have hn := numbers_r ws (by omega) hw
  have hr := rightAxis_r
  have h0 : (1 : Int) ≤ ws.length + 1 := by omega
  rw [run15 (by simp)]
  unfold lineF
  simp only [List.tail_cons, List.head?_cons, Option.some.injEq]
  cases hns : numsF ws with
  | none =>
    rw [hns] at hn
    simp only at hn
    refine ⟨0, ?_⟩
    simp [Tryz.f15, hn, cM, h0, drwK_end]
  | some l =>
    rw [hns] at hn
    simp only at hn ⊢
    have hlen := numsF_len hns
    by_cases h1 : w = [102, 117, 101, 108] ∧ l.length = 1
    · obtain ⟨rfl, hl1⟩ := h1
      obtain ⟨n, rfl⟩ : ∃ n, l = [n] := by
        match l, hl1 with
        | [n], _ => exact ⟨n, rfl⟩
      by_cases hf : c.fuel = 0
      · by_cases hb : 1 ≤ n ∧ n ≤ 16384
        · refine ⟨0, ?_⟩
          simp [Tryz.f15, hn, cM, h0, drwK_end, hf, hb, rightFuel_r]
        · refine ⟨0, ?_⟩
          simp [Tryz.f15, hn, cM, h0, drwK_end, hf, hb, rightFuel_r]
      · refine ⟨0, ?_⟩
        simp [Tryz.f15, hn, cM, h0, drwK_end, hf]
    · rw [if_neg h1]
      by_cases h2 : w = [97, 120, 105, 115] ∧ l.length = 12
      · obtain ⟨rfl, hl1⟩ := h2
        have ha := axisOf_r l hl1
        have hra := hr (axOf smP l)
        generalize axOf smP l = a at ha hra ⊢
        have hl1' : ¬ l.length = 1 := by omega
        cases hx : axR a with
        | false =>
          rw [hx] at hra
          refine ⟨0, ?_⟩
          simp [axD] at ha hra
          simp [Tryz.f15, hn, cM, h0, drwK_end, hl1, ha, hra]
        | true =>
          rw [hx] at hra
          simp [axD] at ha hra
          by_cases h4 : c.axes.length = 4
          · refine ⟨0, ?_⟩
            simp [Tryz.f15, hn, cM, h0, drwK_end, hl1, ha, hra, h4]
          · have h4' : ¬ ((c.axes.length : Int) = 4) := by omega
            have h3 : (c.axes.length + 1) * 96 ≤ 140737488355328 ∧ c.axes.length + 1 ≤ 4611686018427387904 := by omega
            refine ⟨1, ?_⟩
            simp [Tryz.f15, hn, cM, h0, drwK_end, hl1, ha, hra, h4, h4', h3, axD]
      · refine ⟨0, ?_⟩
        rw [if_neg h2]
        have g1 : w = [102, 117, 101, 108] → ¬ ((l.length : Int) = 1) := fun e h => h1 ⟨e, by omega⟩
        have g2 : w = [97, 120, 105, 115] → ¬ ((l.length : Int) = 12) := fun e h => h2 ⟨e, by omega⟩
        by_cases e1 : w = [102, 117, 101, 108]
        · have g1 := g1 e1
          subst e1
          simp [Tryz.f15, hn, cM, h0, drwK_end, g1]
        · by_cases e2 : w = [97, 120, 105, 115]
          · have g2 := g2 e2
            subst e2
            simp [Tryz.f15, hn, cM, h0, drwK_end, g2]
          · simp [Tryz.f15, hn, cM, h0, drwK_end, e1, e2]
end Go.Am
end
section
namespace Go.Am
open Go Go.Proofs
variable [Inhabited Mx2]
set_option maxRecDepth 20000
theorem wordsA_props : ∀ (s cur : List UInt8), (∀ w ∈ wordsA s cur, w ≠ [] ∧ w.length ≤ s.length + cur.length) ∧ (wordsA s cur).length ≤ s.length + 1
  | [], cur => by
    unfold wordsA
    split
    · simp
    · rename_i h
      simp [h]
  | x :: s, cur => by
    obtain ⟨a1, a2⟩ := wordsA_props s []
    obtain ⟨b1, b2⟩ := wordsA_props s (cur ++ [x])
    unfold wordsA
    split
    · split
      · refine ⟨fun w hw => ?_, by simp; omega⟩
        obtain ⟨h1, h2⟩ := a1 w hw
        exact ⟨h1, by simp at h2 ⊢; try omega⟩
      · rename_i h
        refine ⟨fun w hw => ?_, by simp; omega⟩
        rcases List.mem_cons.1 hw with rfl | hw
        · exact ⟨h, by simp⟩
        · obtain ⟨h1, h2⟩ := a1 w hw
          exact ⟨h1, by simp at h2 ⊢; try omega⟩
    · refine ⟨fun w hw => ?_, by simp; omega⟩
      obtain ⟨h1, h2⟩ := b1 w hw
      exact ⟨h1, by simp at h2 ⊢; try omega⟩
theorem ff_r (s : List UInt8) (hs : s.length ≤ 4294967296) : callT ctx 13 [.d (.str s), .fn 14 []] [] = some (.ret (.d (.list ((wordsF s).map D.str))), []) := by
  have := fields_eq ⟨s.toArray⟩
  simp only at this
  rw [orc_run13]
  simp only [orcAns, ffO, hs, and_self, if_true]
  rw [← this, List.map_map]
  rfl
theorem split_r (s : List UInt8) (hs : s.length < 4294967281) : callT ctx 12 [.d (.str s), .d (.str [10])] [] = some (.ret (.d (.list ((cutC 10 s).map D.str))), []) := by
  rw [orc_run12]
  simp [orcAns, liftO, splitO, toDs, hs, split_eq]
def pM (c : Cn) (v : Nat) : Mem := [⟨200, 1, .box [.d (.int .i64 0), .lit (.slice none 0 0)]⟩, ⟨350, 1, .box [.d (.int .i64 c.fuel), .vec 351 v 0 c.axes.length]⟩, ⟨351, v, .vec 12 (c.axes.map axD)⟩]
theorem lineF_axes (sm : Int → Int) (c : Cn) (ws : List (List UInt8)) (h : c.axes.length ≤ 4) : (lineF sm c ws).1.axes.length ≤ 4 := by
  unfold lineF
  split
  · exact h
  · split
    · repeat' split
      all_goals exact h
    · split
      · split
        · exact h
        · split
          · exact h
          · simp; omega
      · exact h
theorem conf_loop (L : List (List UInt8)) (hL : L.length ≤ 1000000000) (k : Kt) (R : Cn × Int × Int → Ans)
    (hbad : ∀ (e line : Int) (c : Cn) (v : Nat), k .ret ⟨60, gl0, [(2, true, .ptr 200 1 0), (3, true, .d (.int .i64 e)), (4, true, .d (.int .i64 line))], pM c v⟩ = R (cn0, e, line))
    (hend : ∀ (c : Cn) (v : Nat), c.axes.length ≤ 4 → k (.exit 0) ⟨60, gl0, [(2, true, .ptr 200 1 0), (5, true, .ptr 350 1 0), (11, true, .d (.list (L.map D.str))), (12, true, .d (.int .i64 L.length)), (13, true, .d (.int .i64 L.length)), (14, true, .d (.bool false))], pM c v⟩ = R (linesF smP [] L.length c)) :
    ∀ (rest pre : List (List UInt8)) (c : Cn) (v : Nat), L = pre ++ rest → c.axes.length ≤ 4 →
    denK ctx 5 (.loop (Code.at (codeOf Tryz.f5) [1, 1, 0, 1, 0, 0])) ⟨60, gl0, [(2, true, .ptr 200 1 0), (5, true, .ptr 350 1 0), (11, true, .d (.list (L.map D.str))), (12, true, .d (.int .i64 L.length)), (13, true, .d (.int .i64 pre.length))], pM c v⟩ k = R (linesF smP rest pre.length c)
  | [], pre, c, v, e, hc => by
    obtain rfl : L = pre := by simpa using e
    have hend := hend c v hc
    rw [denK_loop]
    simp [Tryz.f5, pM] at hend ⊢
    simp [hend]
  | s :: rest, pre, c, v, e, hc => by
    have ih := fun c v hc => conf_loop L hL k R hbad hend rest (pre ++ [s]) c v (by simp [e]) hc
    have hl : L.length = pre.length + (rest.length + 1) := by rw [e]; simp
    have h1 : (pre.length : Int) < L.length := by omega
    have h1' : pre.length < L.length := by omega
    have h2 : IntKind.i64.wrap ((pre.length : Int) + 1) = pre.length + 1 := wrap_id (by unfold I64; omega)
    have hg : L[pre.length] = s := by
      have : L[pre.length]? = some s := by rw [e]; simp
      exact (List.getElem?_eq_some_iff.1 this).2
    unfold linesF
    rw [denK_loop]
    by_cases hlong : 512 ≤ pre.length ∨ 256 < s.length
    · rw [if_pos hlong]
      have hbad := hbad 13 (pre.length + 1) c v
      simp [Tryz.f5, pM] at hbad ⊢
      by_cases h3 : 512 ≤ pre.length
      · have h3' : (512 : Int) ≤ pre.length := by omega
        simp [h1, h1', h2, hg, h3, h3', hbad]
      · have h3' : ¬ (512 : Int) ≤ pre.length := by omega
        have h4 : 256 < s.length := by omega
        have h4' : (256 : Int) < s.length := by omega
        simp [h1, h1', h2, hg, h3, h3', h4, h4', hbad]
    · rw [if_neg hlong]
      have h3 : ¬ 512 ≤ pre.length := by omega
      have h3' : ¬ (512 : Int) ≤ pre.length := by omega
      have h4 : ¬ 256 < s.length := by omega
      have h4' : ¬ (256 : Int) < s.length := by omega
      have hff := ff_r s (by omega)
      obtain ⟨w1, w2⟩ := wordsA_props s []
      change (∀ w ∈ wordsF s, _) at w1
      change (wordsF s).length ≤ _ at w2
      cases hws : wordsF s with
      | nil =>
        rw [if_pos (by left; rfl)]
        have ih := ih c v hc
        rw [hws] at hff
        simp only [List.map_nil] at hff
        simp [Tryz.f5, pM] at ih ⊢
        simp [-orc_run13, h1, h1', h2, hg, h3, h3', h4, h4', hff, ih]
      | cons w ws =>
        rw [hws] at hff w1 w2
        simp only [List.map_cons] at hff
        obtain ⟨hw0, hw1⟩ := w1 w (by simp)
        have hn0 : ¬ ((ws.length : Int) + 1 = 0) := by omega
        obtain ⟨x, w', rfl⟩ : ∃ x w', w = x :: w' := by
          cases w with
          | nil => exact absurd rfl hw0
          | cons x w' => exact ⟨x, w', rfl⟩
        have hs0 : strAt (x :: w') 0 = x := rfl
        by_cases hq : x = 35
        · subst hq
          have h35 : ((35 : UInt8).toNat : Int) = 35 := rfl
          rw [if_pos (by right; rfl)]
          have ih := ih c v hc
          simp [Tryz.f5, pM] at ih ⊢
          simp [-orc_run13, h1, h1', h2, hg, h3, h3', h4, h4', hff, hn0, hs0, h35, ih]
        · rw [if_neg (by rintro (h | h); · cases h
                         · simp at h; exact hq h)]
          have hq' : ¬ ((x.toNat : Int) = 35) := fun e => hq (UInt8.toNat_inj.1 (show x.toNat = (35 : UInt8).toNat by have : (35 : UInt8).toNat = 35 := rfl; omega))
          obtain ⟨ver, hline⟩ := line_r c (x :: w') ws hc (by simp at w2; omega) (fun y hy => by have := (w1 y (by simp [hy])).2; simp at this; omega)
          have hax := lineF_axes smP c ((x :: w') :: ws) hc
          generalize lineF smP c ((x :: w') :: ws) = ce at hline hax ⊢
          obtain ⟨c', er⟩ := ce
          simp only at hline hax ⊢
          by_cases he : er = 0
          · subst he
            have ih := ih c' (v + ver) hax
            simp [Tryz.f5, pM, cM] at ih hline ⊢
            simp [-orc_run13, h1, h1', h2, hg, h3, h3', h4, h4', hff, hn0, hs0, hq', hline, ih]
          · rw [if_neg he]
            have hbad := hbad er (pre.length + 1) c' (v + ver)
            simp [Tryz.f5, pM, cM] at hbad hline ⊢
            simp [-orc_run13, h1, h1', h2, hg, h3, h3', h4, h4', hff, hn0, hs0, hq', hline, he, hbad]
theorem cutA_len (c : UInt8) : ∀ s cur : List UInt8, (cutA c s cur).length ≤ s.length + 1
  | [], cur => by simp [cutA]
  | x :: s, cur => by
    unfold cutA
    split
    · have := cutA_len c s []
      simp; omega
    · have := cutA_len c s (cur ++ [x])
      simp; omega
def cfR (r : Cn × Int × Int) : Ans := some (.ret (.tup [.d (cnD r.1), .d (.int .i64 r.2.1), .d (.int .i64 r.2.2)]), [])
theorem confParse_r (t : List UInt8) (ht : t.length ≤ 999999999) : callT ctx 5 [.d (.str t)] [] = cfR (confF smP t) := by
  have hs := split_r t (by omega)
  have hlen := cutA_len 10 t []
  have hl := fun k R hbad hend => conf_loop (cutC 10 t) (by unfold cutC; omega) k R hbad hend (cutC 10 t) [] cn0 1 rfl (by simp [cn0])
  rw [run5 (by simp)]
  unfold confF
  generalize cutC 10 t = L at hs hl ⊢
  simp [Tryz.f5, pM, cn0] at hl
  simp [-orc_run12, Tryz.f5, hs]
  rw [hl _ cfR]
  · rfl
  · intro e line c v
    simp [cfR, cn0, cnD]
  · intro c v hc
    by_cases h1 : c.fuel = 0
    · simp [linesF, h1, cfR, cn0, cnD]
    · cases hax : c.axes with
      | nil => simp [linesF, h1, hax, cfR, cn0, cnD]
      | cons a r =>
        have hne : ¬ ((r.length : Int) + 1 = 0) := by omega
        simp [linesF, h1, hax, hne, cfR, cn0, cnD]
end Go.Am
end
section
namespace Go.Am
open Go Go.Proofs
variable [Inhabited Mx2]
set_option maxRecDepth 20000
def numsQ : List (List UInt8) → Option (List Int)
  | [] => some []
  | w :: r => match numR w with
    | some n => match numsQ r with
      | some l => some (n :: l)
      | none => none
    | none => none
theorem numsQ_eq : ∀ l, numsF l = numsQ l
  | [] => rfl
  | w :: r => by
    unfold numsF numsQ
    rw [num_eq, numsQ_eq r]
    all_goals
      cases numR w with
      | none => rfl
      | some n => cases numsQ r <;> rfl
theorem awk28 : confF smP [102, 117, 101, 108, 32, 49, 48, 48, 10, 97, 120, 105, 115, 32, 53, 32, 50, 32, 50, 32, 45, 49, 48, 48, 32, 49, 48, 48, 32, 49, 32, 48, 32, 53, 32, 49, 32, 51, 32, 50, 32, 53, 48, 10] = (⟨100, [⟨⟨5, 2, 2, -100, 100⟩, 1, 0, 5, 1, 3, 2, 50⟩]⟩, 0, 0) := by
  have h1 : cutC 10 [102, 117, 101, 108, 32, 49, 48, 48, 10, 97, 120, 105, 115, 32, 53, 32, 50, 32, 50, 32, 45, 49, 48, 48, 32, 49, 48, 48, 32, 49, 32, 48, 32, 53, 32, 49, 32, 51, 32, 50, 32, 53, 48, 10] = [[102, 117, 101, 108, 32, 49, 48, 48], [97, 120, 105, 115, 32, 53, 32, 50, 32, 50, 32, 45, 49, 48, 48, 32, 49, 48, 48, 32, 49, 32, 48, 32, 53, 32, 49, 32, 51, 32, 50, 32, 53, 48], []] := by decide
  have w1 : wordsF [102, 117, 101, 108, 32, 49, 48, 48] = [[102, 117, 101, 108], [49, 48, 48]] := by decide
  have w2 : wordsF [97, 120, 105, 115, 32, 53, 32, 50, 32, 50, 32, 45, 49, 48, 48, 32, 49, 48, 48, 32, 49, 32, 48, 32, 53, 32, 49, 32, 51, 32, 50, 32, 53, 48] = [[97, 120, 105, 115], [53], [50], [50], [45, 49, 48, 48], [49, 48, 48], [49], [48], [53], [49], [51], [50], [53, 48]] := by decide
  have w3 : wordsF [] = [] := rfl
  have n1 : numsF [[49, 48, 48]] = some [100] := by rw [numsQ_eq]; decide
  have n2 : numsF [[53], [50], [50], [45, 49, 48, 48], [49, 48, 48], [49], [48], [53], [49], [51], [50], [53, 48]] = some [5, 2, 2, -100, 100, 1, 0, 5, 1, 3, 2, 50] := by rw [numsQ_eq]; decide
  unfold confF
  rw [h1]
  simp [linesF, w1, w2, w3, quiet, lineF, n1, n2, axOf, cn0, smP, axR, madeR, limR, homeR, driveR]
  decide
theorem awake28_run : callT ctx 4 [] [] = some (.ret (.d (.bool true)), []) := by
  have h := confParse_r [102, 117, 101, 108, 32, 49, 48, 48, 10, 97, 120, 105, 115, 32, 53, 32, 50, 32, 50, 32, 45, 49, 48, 48, 32, 49, 48, 48, 32, 49, 32, 48, 32, 53, 32, 49, 32, 51, 32, 50, 32, 53, 48, 10] (by decide)
  rw [awk28] at h
  simp [cfR, cnD, axD] at h
  rw [run4 (by simp)]
  simp [Tryz.f4, h]
end Go.Am
end
section
namespace Go.Am
open Go
def cnI (c : Cn) : Prop := (c.fuel = 0 ∨ (1 ≤ c.fuel ∧ c.fuel ≤ 16384)) ∧ c.axes.length ≤ 4 ∧ c.axes.all axR = true
theorem line_I (sm : Int → Int) (c : Cn) (ws : List (List UInt8)) (h : cnI c) : cnI (lineF sm c ws).1 := by
  unfold lineF
  split
  · exact h
  · rename_i l _
    split
    · split
      · exact h
      · split
        · exact h
        · rename_i h2
          exact ⟨.inr (by simpa using h2), h.2⟩
    · split
      · split
        · exact h
        · split
          · exact h
          · rename_i h1 h2
            refine ⟨h.1, by have := h.2.1; simp; omega, ?_⟩
            simp only [List.all_append, h.2.2, Bool.true_and, List.all_cons, List.all_nil, Bool.and_true]
            simpa using h1
      · exact h
theorem lines_I (sm : Int → Int) : ∀ (l : List (List UInt8)) (i : Nat) (c : Cn), cnI c → ((linesF sm l i c).2.1 = 0 ∧ cnR (linesF sm l i c).1 = true) ∨ ((linesF sm l i c).2.1 ≠ 0 ∧ (linesF sm l i c).1 = cn0)
  | [], i, c, h => by
    unfold linesF
    split
    · exact .inr ⟨by decide, rfl⟩
    · rename_i h0
      simp only [not_or] at h0
      refine .inl ⟨rfl, ?_⟩
      have hf := h.1
      have hl : 1 ≤ c.axes.length := by
        cases hc : c.axes with
        | nil => exact absurd hc h0.2
        | cons a l => simp
      have h2 := h.2.1
      simp only [cnR, h.2.2, Bool.and_true, Bool.and_eq_true, decide_eq_true_eq]
      exact ⟨by rcases hf with hf | hf; exact absurd hf h0.1; exact hf, hl, h2⟩
  | s :: r, i, c, h => by
    unfold linesF
    split
    · exact .inr ⟨by simp, rfl⟩
    · split
      · exact lines_I sm r _ c h
      · split
        · exact lines_I sm r _ _ (line_I sm c _ h)
        · rename_i h1
          exact .inr ⟨h1, rfl⟩
theorem conf_right (sm : Int → Int) (t : List UInt8) : ((confF sm t).2.1 = 0 ∧ cnR (confF sm t).1 = true) ∨ ((confF sm t).2.1 ≠ 0 ∧ (confF sm t).1 = cn0) :=
  lines_I sm _ _ _ ⟨.inl rfl, by simp [cn0], by simp [cn0]⟩
end Go.Am
end
section
namespace Go.Am
open Go Go.Proofs
variable [Inhabited Mx2]
set_option maxRecDepth 20000
def zs (w : Nat) : D := .list (List.replicate w (.int .i64 0))
theorem smR_all : ∀ w : Nat, 1 ≤ w → w ≤ 16 → callT ctx 27 [.d (.agg [zs w])] [] = some (.ret (.d (.bool true)), []) := by
  intro w h1 h2
  match w, h1, h2 with
  | 1, _, _ => exact callT_of 300 (by kernel_rfl)
  | 2, _, _ => exact callT_of 300 (by kernel_rfl)
  | 3, _, _ => exact callT_of 300 (by kernel_rfl)
  | 4, _, _ => exact callT_of 300 (by kernel_rfl)
  | 5, _, _ => exact callT_of 300 (by kernel_rfl)
  | 6, _, _ => exact callT_of 300 (by kernel_rfl)
  | 7, _, _ => exact callT_of 300 (by kernel_rfl)
  | 8, _, _ => exact callT_of 300 (by kernel_rfl)
  | 9, _, _ => exact callT_of 300 (by kernel_rfl)
  | 10, _, _ => exact callT_of 300 (by kernel_rfl)
  | 11, _, _ => exact callT_of 300 (by kernel_rfl)
  | 12, _, _ => exact callT_of 300 (by kernel_rfl)
  | 13, _, _ => exact callT_of 300 (by kernel_rfl)
  | 14, _, _ => exact callT_of 300 (by kernel_rfl)
  | 15, _, _ => exact callT_of 300 (by kernel_rfl)
  | 16, _, _ => exact callT_of 300 (by kernel_rfl)
  | w + 17, _, h => omega
theorem line0 : callT ctx 31 [.d (.agg [.list [], .list []])] [] = some (.ret (.d (.bool true)), []) := callT_of 300 (by kernel_rfl)
theorem slow0 (d : Int) : callT ctx 64 [.d (.int .i64 0), .d (.int .i64 0), .d (.int .i64 d)] [] = some (.ret (.d (.int .i64 0)), []) := by
  have h1 : callT ctx 79 [.d (.int .i64 0)] [] = some (.ret (.d (.int .i64 0)), []) := callT_of 300 (by kernel_rfl)
  have h2 : ∃ y, callT ctx 80 [.d (.int .i64 d)] [] = some (.ret (.d (.int .i64 y)), []) := by
    rw [run80 (by simp)]
    simp [Tryz.f80, drwK_end]
  obtain ⟨y, h2⟩ := h2
  rw [run64 (by simp)]
  simp [Tryz.f64, h1, h2, drwK_end]
theorem way0 (d : Int) : callT ctx 47 [.d (.int .i64 0), .d (.int .i64 d)] [] = some (.ret (.d (.int .i64 0)), []) := by
  have h := slow0 d
  rw [run47 (by simp)]
  simp [Tryz.f47, h, drwK_end]
theorem safe0 (v a d : Int) : callT ctx 28 [.d (.agg [.int .i64 v, .int .i64 a, .int .i64 d, .int .i64 (-1099511627776), .int .i64 1099511627776]), .d (.agg [.int .i64 0, .int .i64 0])] [] = some (.ret (.d (.bool true)), []) := by
  have h := way0 d
  rw [run28 (by simp)]
  have w0 : IntKind.i64.wrap 1099511627776 = 1099511627776 := by decide
  simp [Tryz.f28, within_r, h, drwK_end, w0]
theorem bounds0 (l : Lim) (win home fast creep : Int) (last : List D) : callT ctx 29 [.d (axisD l win home fast creep last)] [] = some (.ret (.d (.agg [.int .i64 l.vel, .int .i64 l.acc, .int .i64 l.dec, .int .i64 (-1099511627776), .int .i64 1099511627776])), []) := by
  rw [run29 (by simp)]
  simp [Tryz.f29, axisD, drwK_end]
theorem fits0 (l : Lim) (win home fast creep : Int) (last : List D) : callT ctx 32 [.d (axisD l win home fast creep last)] [] = some (.ret (.d (.bool true)), []) := by
  rw [run32 (by simp)]
  simp [Tryz.f32, axisD, drwK_end]
theorem near_loop (X : Mem) (w : Nat) (hw : w ≤ 16) (k : Kt) (R : Ans)
    (hx : k (.exit 0) ⟨39, gl0, [(3, true, .d (.int .i64 0)), (12, true, .d (zs w)), (13, true, .d (.int .i64 w)), (14, true, .d (.int .i64 w)), (15, true, .d (.bool false))], X⟩ = R) :
    ∀ (j i : Nat), j + i = w →
    denK ctx 30 (.loop (Code.at (codeOf Tryz.f30) [1, 1, 0, 1, 0, 0])) ⟨39, gl0, [(3, true, .d (.int .i64 0)), (12, true, .d (zs w)), (13, true, .d (.int .i64 w)), (14, true, .d (.int .i64 i))], X⟩ k = R
  | 0, i, e => by
    obtain rfl : i = w := by omega
    rw [denK_loop]
    simp [Tryz.f30, zs] at hx ⊢
    simp [hx]
  | j + 1, i, e => by
    have ih := near_loop X w hw k R hx j (i + 1) (by omega)
    have w1 : (i : Int) < w := by omega
    have w1n : i < w := by omega
    have w2 : IntKind.i64.wrap ((i : Int) + 1) = i + 1 := wrap_id (by unfold I64; omega)
    have w0 : IntKind.i64.wrap 0 = 0 := rfl
    rw [denK_loop]
    simp [Tryz.f30, zs] at ih ⊢
    simp [w1, w1n, w2, w0, ih, drwK_end]
theorem near0 (l : Lim) (win home fast creep : Int) (w : Nat) (hw : w ≤ 16) : callT ctx 30 [.d (axisD l win home fast creep (List.replicate w (.int .i64 0)))] [] = some (.ret (.d (.bool true)), []) := by
  have hlp := fun X k R hx => near_loop X w hw k R hx w 0 rfl
  rw [run30 (by simp)]
  simp [Tryz.f30, axisD, zs] at hlp ⊢
  rw [hlp]
  simp
theorem axisRight0 (l : Lim) (win home fast creep : Int) (h : madeR l win home fast creep = true) : callT ctx 10 [.d (axN l win home fast creep)] [] = some (.ret (.d (.bool true)), []) := by
  have h0 := axisNew_r l win home fast creep
  have hw : 1 ≤ win ∧ win ≤ 16 := by
    simp only [madeR, Bool.and_eq_true, decide_eq_true_eq] at h
    exact h.1
  obtain ⟨n, rfl⟩ : ∃ n : Nat, win = n := ⟨win.toNat, by omega⟩
  have h1 := smR_all n (by omega) (by omega)
  have h2 := bounds0 l n home fast creep (List.replicate n (.int .i64 0))
  have h3 := safe0 l.vel l.acc l.dec
  have h4 := near0 l n home fast creep n (by omega)
  have h5 := line0
  have h6 := fits0 l n home fast creep (List.replicate n (.int .i64 0))
  rw [run10 (by simp)]
  simp only [axN, h, if_true, Int.toNat_natCast] at h0 ⊢
  simp [axisD, limD, zs] at h0 h1 h2 h4 h6
  simp [Tryz.f10, axisD, h0, h1, h2, h3, h4, h5, h6, drwK_end]
theorem driveRight0 (w c : Int) (h : driveR w c = true) : callT ctx 11 [.d (driveN w c)] [] = some (.ret (.d (.bool true)), []) := by
  have h' := h
  simp only [driveR, Bool.and_eq_true, decide_eq_true_eq] at h'
  have h1 := bounceRight_r c false 0
  have h2 := watchRight_r w 0 (-1)
  have e1 : 1 ≤ c ∧ c ≤ 20 ∧ 0 < c := by omega
  have e2 : 1 ≤ w ∧ w ≤ 100 ∧ 0 ≤ w := by omega
  rw [run11 (by simp)]
  simp only [driveN, h, if_true]
  simp [e1] at h1
  simp [e2] at h2
  simp [Tryz.f11, h1, h2, drwK_end]
end Go.Am
end
section
namespace Go.Am
open Go Go.Proofs
variable [Inhabited Mx2]
set_option maxRecDepth 20000
theorem cut_facts30 (t : List UInt8) : ∃ n : Nat, (if (3000 : Int) < t.length then (3000 : Int) else t.length) = (n : Int) ∧ n ≤ t.length ∧ (n : Int) ≤ t.length ∧ (t.take n).length ≤ 3000 := by
  by_cases h : 3000 < t.length
  · exact ⟨3000, by rw [if_pos (by omega)]; rfl, by omega, by omega, by simp; omega⟩
  · exact ⟨t.length, by rw [if_neg (by omega)], by omega, by omega, by simp; omega⟩
set_option maxHeartbeats 2000000 in
theorem builds_loop (f : AV) (v2 : Nat) (c2 : Cont) (L : List Ax) (hL : L.length ≤ 4) (hR : ∀ a ∈ L, axR a = true) (k : Kt) (R : Ans)
    (hx : ∀ (v3 v4 v5 : Nat) (c3 c4 c5 : Cont), k (.exit 0) ⟨129, gl0, [(3, true, .ptr 250 1 0), (13, true, .d (.int .i64 L.length)), (83, true, .d (.bool false))], [⟨250, 1, .box [f, .d (.list (L.map axD))]⟩, ⟨500, v2, c2⟩, ⟨800, v3, c3⟩, ⟨850, v4, c4⟩, ⟨950, v5, c5⟩]⟩ = R) :
    ∀ (r p : List Ax) (v3 v4 v5 : Nat) (c3 c4 c5 : Cont), L = p ++ r →
    denK ctx 3 (.loop (Code.at (codeOf Tryz.f3) [1, 1, 1, 1, 1, 1, 1, 1, 1, 0, 1, 0, 0])) ⟨129, gl0, [(3, true, .ptr 250 1 0), (13, true, .d (.int .i64 p.length))], [⟨250, 1, .box [f, .d (.list (L.map axD))]⟩, ⟨500, v2, c2⟩, ⟨800, v3, c3⟩, ⟨850, v4, c4⟩, ⟨950, v5, c5⟩]⟩ k = R
  | [], p, v3, v4, v5, c3, c4, c5, e => by
    obtain rfl : L = p := by simpa using e
    have hx := hx v3 v4 v5 c3 c4 c5
    rw [denK_loop]
    simp [Tryz.f3] at hx ⊢
    simp [hx]
  | a :: r, p, v3, v4, v5, c3, c4, c5, e => by
    have ih := fun v3 v4 v5 c3 c4 c5 => builds_loop f v2 c2 L hL hR k R hx r (p ++ [a]) v3 v4 v5 c3 c4 c5 (by simp [e])
    have ha := hR a (by simp [e])
    have ha' := ha
    simp only [axR, Bool.and_eq_true] at ha'
    obtain ⟨hm, hd, _⟩ := ha'
    have h1 := axisNew_r a.l a.win a.home a.fast a.creep
    have h2 := driveNew_r a.watch a.count
    have h3 := axisRight0 a.l a.win a.home a.fast a.creep hm
    have h4 := driveRight0 a.watch a.count hd
    have hlA : L.length = p.length + (r.length + 1) := by rw [e]; simp
    have w1 : (p.length : Int) < L.length := by omega
    have w1n : p.length < L.length := by omega
    have w2 : IntKind.i64.wrap ((p.length : Int) + 1) = p.length + 1 := wrap_id (by unfold I64; omega)
    have gA : L[p.length] = a := by
      have : L[p.length]? = some a := by rw [e]; simp
      exact (List.getElem?_eq_some_iff.1 this).2
    rw [denK_loop]
    simp only [axN, hm, driveN, hd, if_true, axisD] at h1 h2 h3 h4
    simp [limD] at h1 h2 h3 h4
    simp [Tryz.f3] at ih ⊢
    simp [w1, w1n, w2, gA, axD, h1, h2, h3, h4, ih, drwK_end]
theorem confBuilds_run (t : List UInt8) : callT ctx 3 [.d (.str t)] [] = some (.ret (.d (.bool true)), []) := by
  obtain ⟨n, hn1, hn2, hn3, hsl⟩ := cut_facts30 t
  obtain ⟨s, hs⟩ : ∃ s, t.take n = s := ⟨_, rfl⟩
  rw [hs] at hsl
  have haw := awake28_run
  have h1 := confParse_r s (by omega)
  have hri := conf_right smP s
  generalize confF smP s = r at h1 hri
  obtain ⟨c, e, l⟩ := r
  simp only at hri
  rcases hri with ⟨rfl, hc⟩ | ⟨he, rfl⟩
  · have hlen : c.axes.length ≤ 4 := by
      simp only [cnR, Bool.and_eq_true, decide_eq_true_eq] at hc
      exact hc.2.1.2
    have hR : ∀ a ∈ c.axes, axR a = true := by
      simp only [cnR, Bool.and_eq_true, List.all_eq_true] at hc
      exact hc.2.2
    have h2 := confShow_r c (by omega)
    have h3 := confParse_r (showT c) (show_len hc)
    rw [conf_back hc] at h3
    have h4 := confRight_r c (by omega)
    have hlp := fun f v2 c2 k R hx v3 v4 v5 c3 c4 c5 => builds_loop f v2 c2 c.axes hlen hR k R hx c.axes [] v3 v4 v5 c3 c4 c5 rfl
    simp only [hc, if_true] at h2 h4
    rw [run3 (by simp)]
    simp [cfR, cnD] at h1 h2 h3 h4
    simp [Tryz.f3] at hlp ⊢
    simp [haw, hn1, hn2, hn3, hs, h1, h2, h3, h4, drwK_end]
    rw [hlp]
    intro v3 v4 v5 c3 c4 c5
    simp
  · simp [cfR, cnD, cn0] at h1
    rw [run3 (by simp)]
    simp [Tryz.f3, haw, hn1, hn2, hn3, hs, h1, he, drwK_end]
end Go.Am
end
