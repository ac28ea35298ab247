/-
  Texts of one proof, one behind the other.
-/
import Derived.Test.YtecknaklaleloaaDoorP6
set_option linter.all false
section
namespace Go.Am
open Go
open Go.Proofs
set_option maxRecDepth 10000
noncomputable def keepL : List (Nat → List Nat) := [fun _ => [], fun _ => [], fun _ => [], keep3, keep4, fun _ => [], fun _ => [], keep7, keep8, fun _ => [], fun _ => [], keep11, keep12, fun _ => [], fun _ => [], fun _ => [], fun _ => [], keep17, keep18, fun _ => [], fun _ => [], fun _ => [], fun _ => [], keep23, keep24, keep25, fun _ => [], keep27, fun _ => [], fun _ => [], fun _ => [], fun _ => [], fun _ => [], fun _ => [], keep34, keep35, keep36, keep37, fun _ => [], fun _ => [], fun _ => [], fun _ => [], fun _ => [], fun _ => [], fun _ => [], keep45, keep46, keep47, keep48, keep49, keep50, keep51, keep52, fun _ => [], fun _ => [], fun _ => [], fun _ => [], keep57, keep58, keep59, keep60, fun _ => [], fun _ => [], fun _ => [], fun _ => [], fun _ => [], fun _ => [], keep67, keep68, keep69, keep70, keep71, keep72, keep73, keep74, keep75, keep76, keep77, keep78, keep79, keep80, keep81, keep82, keep83, keep84, fun _ => [], fun _ => [], fun _ => [], fun _ => [], fun _ => [], fun _ => [], keep91, keep92, keep93, keep94, keep95, keep96, fun _ => [], fun _ => [], fun _ => [], fun _ => [], fun _ => [], fun _ => [], fun _ => [], fun _ => [], fun _ => [], keep106, keep107, keep108, keep109, keep110, keep111, keep112, keep113, keep114, keep115, keep116, keep117, keep118, fun _ => [], fun _ => [], fun _ => [], fun _ => [], keep123, fun _ => [], fun _ => [], fun _ => [], fun _ => [], fun _ => [], fun _ => [], fun _ => [], fun _ => [], fun _ => [], fun _ => [], fun _ => [], fun _ => [], fun _ => [], keep137, keep138, keep139, keep140, keep141, keep142, keep143, keep144, keep145, keep146, keep147, keep148, keep149, keep150, fun _ => [], fun _ => [], fun _ => [], fun _ => [], fun _ => [], fun _ => [], keep157, keep158, keep159, keep160, keep161, keep162, keep163, keep164, fun _ => [], fun _ => [], fun _ => [], fun _ => [], fun _ => [], fun _ => [], fun _ => [], keep172, keep173, keep174, keep175, keep176, fun _ => [], fun _ => [], fun _ => [], fun _ => [], keep181, fun _ => [], fun _ => [], fun _ => [], fun _ => [], fun _ => [], fun _ => [], fun _ => [], fun _ => [], fun _ => [], fun _ => [], fun _ => [], fun _ => [], fun _ => [], fun _ => [], fun _ => [], fun _ => [], fun _ => [], fun _ => [], fun _ => [], fun _ => [], fun _ => [], fun _ => [], fun _ => [], fun _ => [], fun _ => [], fun _ => [], fun _ => [], fun _ => [], fun _ => [], fun _ => [], fun _ => [], fun _ => [], fun _ => [], fun _ => []]
noncomputable def ghL : List (Nat → List Gh) := [fun _ => [], fun _ => [], fun _ => [], fun _ => [], fun _ => [], fun _ => [], fun _ => [], fun _ => [], fun _ => [], fun _ => [], fun _ => [], fun _ => [], gh12, fun _ => [], fun _ => [], fun _ => [], fun _ => [], fun _ => [], fun _ => [], fun _ => [], fun _ => [], fun _ => [], fun _ => [], fun _ => [], fun _ => [], fun _ => [], fun _ => [], fun _ => [], fun _ => [], fun _ => [], fun _ => [], fun _ => [], fun _ => [], fun _ => [], fun _ => [], fun _ => [], fun _ => [], fun _ => [], fun _ => [], fun _ => [], fun _ => [], fun _ => [], fun _ => [], fun _ => [], fun _ => [], fun _ => [], fun _ => [], fun _ => [], fun _ => [], fun _ => [], fun _ => [], fun _ => [], fun _ => [], fun _ => [], fun _ => [], fun _ => [], fun _ => [], fun _ => [], fun _ => [], fun _ => [], fun _ => [], fun _ => [], fun _ => [], fun _ => [], fun _ => [], fun _ => [], fun _ => [], fun _ => [], fun _ => [], fun _ => [], fun _ => [], fun _ => [], fun _ => [], fun _ => [], fun _ => [], fun _ => [], fun _ => [], fun _ => [], fun _ => [], fun _ => [], fun _ => [], fun _ => [], fun _ => [], fun _ => [], fun _ => [], fun _ => [], fun _ => [], fun _ => [], fun _ => [], fun _ => [], fun _ => [], fun _ => [], fun _ => [], fun _ => [], fun _ => [], fun _ => [], fun _ => [], fun _ => [], fun _ => [], fun _ => [], fun _ => [], fun _ => [], fun _ => [], fun _ => [], fun _ => [], fun _ => [], fun _ => [], fun _ => [], fun _ => [], fun _ => [], fun _ => [], fun _ => [], fun _ => [], fun _ => [], fun _ => [], fun _ => [], fun _ => [], fun _ => [], fun _ => [], fun _ => [], fun _ => [], fun _ => [], fun _ => [], fun _ => [], fun _ => [], fun _ => [], fun _ => [], fun _ => [], fun _ => [], fun _ => [], fun _ => [], fun _ => [], fun _ => [], fun _ => [], fun _ => [], fun _ => [], fun _ => [], fun _ => [], fun _ => [], fun _ => [], fun _ => [], fun _ => [], fun _ => [], fun _ => [], fun _ => [], gh145, gh146, fun _ => [], fun _ => [], gh149, fun _ => [], fun _ => [], fun _ => [], fun _ => [], fun _ => [], fun _ => [], fun _ => [], fun _ => [], fun _ => [], fun _ => [], fun _ => [], fun _ => [], fun _ => [], fun _ => [], fun _ => [], fun _ => [], fun _ => [], fun _ => [], fun _ => [], fun _ => [], fun _ => [], fun _ => [], fun _ => [], fun _ => [], fun _ => [], fun _ => [], fun _ => [], fun _ => [], fun _ => [], fun _ => [], fun _ => [], fun _ => [], fun _ => [], fun _ => [], fun _ => [], fun _ => [], fun _ => [], fun _ => [], fun _ => [], fun _ => [], fun _ => [], fun _ => [], fun _ => [], fun _ => [], fun _ => [], fun _ => [], fun _ => [], fun _ => [], fun _ => [], fun _ => [], fun _ => [], fun _ => [], fun _ => [], fun _ => [], fun _ => [], fun _ => [], fun _ => [], fun _ => [], fun _ => [], fun _ => [], fun _ => [], fun _ => [], fun _ => [], fun _ => [], fun _ => [], fun _ => []]
noncomputable def mdL : List (Nat → Bool) := [fun _ => false, fun _ => false, fun _ => false, md3, md4, fun _ => false, fun _ => false, md7, md8, fun _ => false, fun _ => false, md11, md12, fun _ => false, fun _ => false, fun _ => false, fun _ => false, md17, md18, fun _ => false, fun _ => false, fun _ => false, fun _ => false, md23, md24, md25, fun _ => false, md27, fun _ => false, fun _ => false, fun _ => false, fun _ => false, fun _ => false, fun _ => false, md34, md35, md36, md37, fun _ => false, fun _ => false, fun _ => false, fun _ => false, fun _ => false, fun _ => false, fun _ => false, md45, md46, md47, md48, md49, md50, md51, md52, fun _ => false, fun _ => false, fun _ => false, fun _ => false, md57, md58, md59, md60, fun _ => false, fun _ => false, fun _ => false, fun _ => false, fun _ => false, fun _ => false, md67, md68, md69, md70, md71, md72, md73, md74, md75, md76, md77, md78, md79, md80, md81, md82, md83, md84, fun _ => false, fun _ => false, fun _ => false, fun _ => false, fun _ => false, fun _ => false, md91, md92, md93, md94, md95, md96, fun _ => false, fun _ => false, fun _ => false, fun _ => false, fun _ => false, fun _ => false, fun _ => false, fun _ => false, fun _ => false, md106, md107, md108, md109, md110, md111, md112, md113, md114, md115, md116, md117, md118, fun _ => false, fun _ => false, fun _ => false, fun _ => false, md123, fun _ => false, fun _ => false, fun _ => false, fun _ => false, fun _ => false, fun _ => false, fun _ => false, fun _ => false, fun _ => false, fun _ => false, fun _ => false, fun _ => false, fun _ => false, md137, md138, md139, md140, md141, md142, md143, md144, md145, md146, md147, md148, md149, md150, fun _ => false, fun _ => false, fun _ => false, fun _ => false, fun _ => false, fun _ => false, md157, md158, md159, md160, md161, md162, md163, md164, fun _ => false, fun _ => false, fun _ => false, fun _ => false, fun _ => false, fun _ => false, fun _ => false, md172, md173, md174, md175, md176, fun _ => false, fun _ => false, fun _ => false, fun _ => false, md181, fun _ => false, fun _ => false, fun _ => false, fun _ => false, fun _ => false, fun _ => false, fun _ => false, fun _ => false, fun _ => false, fun _ => false, fun _ => false, fun _ => false, fun _ => false, fun _ => false, fun _ => false, fun _ => false, fun _ => false, fun _ => false, fun _ => false, fun _ => false, fun _ => false, fun _ => false, fun _ => false, fun _ => false, fun _ => false, fun _ => false, fun _ => false, fun _ => false, fun _ => false, fun _ => false, fun _ => false, fun _ => false, fun _ => false, fun _ => false]
noncomputable def fpL : List FPol := [⟨[], false, [], [], false⟩, ⟨[], false, [], [], false⟩, ⟨[], false, [], [], false⟩, fp3, fp4, ⟨[], false, [], [], false⟩, ⟨[], false, [], [], false⟩, fp7, fp8, ⟨[], false, [], [], false⟩, ⟨[], false, [], [], false⟩, fp11, fp12, ⟨[], false, [], [], false⟩, ⟨[], false, [], [], false⟩, ⟨[], false, [], [], false⟩, ⟨[], false, [], [], false⟩, fp17, fp18, ⟨[], false, [], [], false⟩, ⟨[], false, [], [], false⟩, ⟨[], false, [], [], false⟩, ⟨[], false, [], [], false⟩, fp23, fp24, fp25, ⟨[], false, [], [], false⟩, fp27, ⟨[], false, [], [], false⟩, ⟨[], false, [], [], false⟩, ⟨[], false, [], [], false⟩, ⟨[], false, [], [], false⟩, ⟨[], false, [], [], false⟩, ⟨[], false, [], [], false⟩, fp34, fp35, fp36, fp37, ⟨[], false, [], [], false⟩, ⟨[], false, [], [], false⟩, ⟨[], false, [], [], false⟩, ⟨[], false, [], [], false⟩, ⟨[], false, [], [], false⟩, ⟨[], false, [], [], false⟩, ⟨[], false, [], [], false⟩, fp45, fp46, fp47, fp48, fp49, fp50, fp51, fp52, ⟨[], false, [], [], false⟩, ⟨[], false, [], [], false⟩, ⟨[], false, [], [], false⟩, ⟨[], false, [], [], false⟩, fp57, fp58, fp59, fp60, ⟨[], false, [], [], false⟩, ⟨[], false, [], [], false⟩, ⟨[], false, [], [], false⟩, ⟨[], false, [], [], false⟩, ⟨[], false, [], [], false⟩, ⟨[], false, [], [], false⟩, fp67, fp68, fp69, fp70, fp71, fp72, fp73, fp74, fp75, fp76, fp77, fp78, fp79, fp80, fp81, fp82, fp83, fp84, ⟨[], false, [], [], false⟩, ⟨[], false, [], [], false⟩, ⟨[], false, [], [], false⟩, ⟨[], false, [], [], false⟩, ⟨[], false, [], [], false⟩, ⟨[], false, [], [], false⟩, fp91, fp92, fp93, fp94, fp95, fp96, ⟨[], false, [], [], false⟩, ⟨[], false, [], [], false⟩, ⟨[], false, [], [], false⟩, ⟨[], false, [], [], false⟩, ⟨[], false, [], [], false⟩, ⟨[], false, [], [], false⟩, ⟨[], false, [], [], false⟩, ⟨[], false, [], [], false⟩, ⟨[], false, [], [], false⟩, fp106, fp107, fp108, fp109, fp110, fp111, fp112, fp113, fp114, fp115, fp116, fp117, fp118, ⟨[], false, [], [], false⟩, ⟨[], false, [], [], false⟩, ⟨[], false, [], [], false⟩, ⟨[], false, [], [], false⟩, fp123, ⟨[], false, [], [], false⟩, ⟨[], false, [], [], false⟩, ⟨[], false, [], [], false⟩, ⟨[], false, [], [], false⟩, ⟨[], false, [], [], false⟩, ⟨[], false, [], [], false⟩, ⟨[], false, [], [], false⟩, ⟨[], false, [], [], false⟩, ⟨[], false, [], [], false⟩, ⟨[], false, [], [], false⟩, ⟨[], false, [], [], false⟩, ⟨[], false, [], [], false⟩, ⟨[], false, [], [], false⟩, fp137, fp138, fp139, fp140, fp141, fp142, fp143, fp144, fp145, fp146, fp147, fp148, fp149, fp150, ⟨[], false, [], [], false⟩, ⟨[], false, [], [], false⟩, ⟨[], false, [], [], false⟩, ⟨[], false, [], [], false⟩, ⟨[], false, [], [], false⟩, ⟨[], false, [], [], false⟩, fp157, fp158, fp159, fp160, fp161, fp162, fp163, fp164, ⟨[], false, [], [], false⟩, ⟨[], false, [], [], false⟩, ⟨[], false, [], [], false⟩, ⟨[], false, [], [], false⟩, ⟨[], false, [], [], false⟩, ⟨[], false, [], [], false⟩, ⟨[], false, [], [], false⟩, fp172, fp173, fp174, fp175, fp176, ⟨[], false, [], [], false⟩, ⟨[], false, [], [], false⟩, ⟨[], false, [], [], false⟩, ⟨[], false, [], [], false⟩, fp181, ⟨[], false, [], [], false⟩, ⟨[], false, [], [], false⟩, ⟨[], false, [], [], false⟩, ⟨[], false, [], [], false⟩, ⟨[], false, [], [], false⟩, ⟨[], false, [], [], false⟩, ⟨[], false, [], [], false⟩, ⟨[], false, [], [], false⟩, ⟨[], false, [], [], false⟩, ⟨[], false, [], [], false⟩, ⟨[], false, [], [], false⟩, ⟨[], false, [], [], false⟩, ⟨[], false, [], [], false⟩, ⟨[], false, [], [], false⟩, ⟨[], false, [], [], false⟩, ⟨[], false, [], [], false⟩, ⟨[], false, [], [], false⟩, ⟨[], false, [], [], false⟩, ⟨[], false, [], [], false⟩, ⟨[], false, [], [], false⟩, ⟨[], false, [], [], false⟩, ⟨[], false, [], [], false⟩, ⟨[], false, [], [], false⟩, ⟨[], false, [], [], false⟩, ⟨[], false, [], [], false⟩, ⟨[], false, [], [], false⟩, ⟨[], false, [], [], false⟩, ⟨[], false, [], [], false⟩, ⟨[], false, [], [], false⟩, ⟨[], false, [], [], false⟩, ⟨[], false, [], [], false⟩, ⟨[], false, [], [], false⟩, ⟨[], false, [], [], false⟩, ⟨[], false, [], [], false⟩]
noncomputable def odL : List (Nat → List (List Nat)) := [fun _ => [], fun _ => [], fun _ => [], od3, od4, fun _ => [], fun _ => [], od7, od8, od9, fun _ => [], od11, od12, fun _ => [], fun _ => [], od15, od16, od17, od18, fun _ => [], od20, fun _ => [], fun _ => [], od23, od24, od25, fun _ => [], od27, fun _ => [], od29, fun _ => [], fun _ => [], fun _ => [], fun _ => [], od34, od35, od36, od37, fun _ => [], fun _ => [], fun _ => [], fun _ => [], fun _ => [], fun _ => [], fun _ => [], od45, od46, od47, od48, od49, od50, od51, od52, fun _ => [], fun _ => [], od55, fun _ => [], od57, od58, od59, od60, fun _ => [], fun _ => [], fun _ => [], fun _ => [], fun _ => [], fun _ => [], od67, od68, od69, od70, od71, od72, od73, od74, od75, od76, od77, od78, od79, od80, od81, od82, od83, od84, fun _ => [], fun _ => [], fun _ => [], fun _ => [], fun _ => [], od90, od91, od92, od93, od94, od95, od96, fun _ => [], fun _ => [], od99, fun _ => [], fun _ => [], fun _ => [], fun _ => [], fun _ => [], fun _ => [], od106, od107, od108, od109, od110, od111, od112, od113, od114, od115, od116, od117, od118, fun _ => [], fun _ => [], fun _ => [], fun _ => [], od123, fun _ => [], fun _ => [], fun _ => [], fun _ => [], fun _ => [], fun _ => [], od130, fun _ => [], fun _ => [], fun _ => [], fun _ => [], fun _ => [], fun _ => [], od137, od138, od139, od140, od141, od142, od143, od144, od145, od146, od147, od148, od149, od150, fun _ => [], fun _ => [], fun _ => [], fun _ => [], fun _ => [], fun _ => [], od157, od158, od159, od160, od161, od162, od163, od164, fun _ => [], od166, od167, fun _ => [], fun _ => [], fun _ => [], fun _ => [], od172, od173, od174, od175, od176, fun _ => [], fun _ => [], fun _ => [], fun _ => [], od181, fun _ => [], fun _ => [], fun _ => [], fun _ => [], fun _ => [], fun _ => [], fun _ => [], fun _ => [], fun _ => [], fun _ => [], fun _ => [], fun _ => [], fun _ => [], fun _ => [], fun _ => [], fun _ => [], fun _ => [], fun _ => [], fun _ => [], fun _ => [], fun _ => [], fun _ => [], fun _ => [], fun _ => [], fun _ => [], fun _ => [], fun _ => [], fun _ => [], fun _ => [], fun _ => [], fun _ => [], fun _ => [], fun _ => [], fun _ => []]
noncomputable def flL : List (Nat → List (Nat × Nat)) := [fun _ => [], fun _ => [], fun _ => [], fun _ => [], fun _ => [], fun _ => [], fun _ => [], fun _ => [], fun _ => [], fun _ => [], fun _ => [], fun _ => [], fun _ => [], fun _ => [], fun _ => [], fun _ => [], fun _ => [], fun _ => [], fun _ => [], fun _ => [], fun _ => [], fun _ => [], fun _ => [], fun _ => [], fun _ => [], fun _ => [], fun _ => [], fun _ => [], fun _ => [], fun _ => [], fun _ => [], fun _ => [], fun _ => [], fun _ => [], fun _ => [], fun _ => [], fun _ => [], fun _ => [], fun _ => [], fun _ => [], fun _ => [], fun _ => [], fun _ => [], fun _ => [], fun _ => [], fun _ => [], fun _ => [], fun _ => [], fun _ => [], fun _ => [], fun _ => [], fun _ => [], fun _ => [], fun _ => [], fun _ => [], fun _ => [], fun _ => [], fun _ => [], fun _ => [], fun _ => [], fun _ => [], fun _ => [], fun _ => [], fun _ => [], fun _ => [], fun _ => [], fun _ => [], fun _ => [], fun _ => [], fun _ => [], fun _ => [], fun _ => [], fun _ => [], fun _ => [], fun _ => [], fun _ => [], fun _ => [], fun _ => [], fun _ => [], fun _ => [], fun _ => [], fun _ => [], fun _ => [], fun _ => [], fun _ => [], fun _ => [], fun _ => [], fun _ => [], fun _ => [], fun _ => [], fun _ => [], fun _ => [], fun _ => [], fun _ => [], fun _ => [], fun _ => [], fun _ => [], fun _ => [], fun _ => [], fun _ => [], fun _ => [], fun _ => [], fun _ => [], fun _ => [], fun _ => [], fun _ => [], fun _ => [], fun _ => [], fun _ => [], fun _ => [], fun _ => [], fun _ => [], fun _ => [], fun _ => [], fun _ => [], fun _ => [], fun _ => [], fun _ => [], fun _ => [], fun _ => [], fun _ => [], fun _ => [], fun _ => [], fun _ => [], fun _ => [], fun _ => [], fun _ => [], fun _ => [], fun _ => [], fun _ => [], fun _ => [], fun _ => [], fun _ => [], fun _ => [], fun _ => [], fun _ => [], fun _ => [], fun _ => [], fun _ => [], fun _ => [], fun _ => [], fun _ => [], fun _ => [], fun _ => [], fun _ => [], fun _ => [], fun _ => [], fun _ => [], fun _ => [], fun _ => [], fun _ => [], fun _ => [], fun _ => [], fun _ => [], fun _ => [], fun _ => [], fun _ => [], fun _ => [], fun _ => [], fun _ => [], fun _ => [], fun _ => [], fun _ => [], fun _ => [], fun _ => [], fun _ => [], fun _ => [], fun _ => [], fun _ => [], fun _ => [], fun _ => [], fun _ => [], fun _ => [], fun _ => [], fun _ => [], fun _ => [], fun _ => [], fun _ => [], fun _ => [], fun _ => [], fun _ => [], fun _ => [], fun _ => [], fun _ => [], fun _ => [], fun _ => [], fun _ => [], fun _ => [], fun _ => [], fun _ => [], fun _ => [], fun _ => [], fun _ => [], fun _ => [], fun _ => [], fun _ => [], fun _ => [], fun _ => [], fun _ => [], fun _ => [], fun _ => [], fun _ => [], fun _ => [], fun _ => [], fun _ => [], fun _ => [], fun _ => [], fun _ => [], fun _ => [], fun _ => [], fun _ => [], fun _ => [], fun _ => [], fun _ => [], fun _ => [], fun _ => []]
def Mx2 : Type := Int
variable [Inhabited Mx2]
def tab0 : List Int := [0, 0, 0, 0, 0, 0, 0, 0, 0, 1, 1, 1, 1, 1, 0, 0, 0, 0, 0, 0, 0, 0, 0, 0, 0, 0, 0, 0, 0, 0, 0, 0, 1, 0, 0, 0, 0, 0, 0, 0, 0, 0, 0, 0, 0, 0, 0, 0, 0, 0, 0, 0, 0, 0, 0, 0, 0, 0, 0, 0, 0, 0, 0, 0, 0, 0, 0, 0, 0, 0, 0, 0, 0, 0, 0, 0, 0, 0, 0, 0, 0, 0, 0, 0, 0, 0, 0, 0, 0, 0, 0, 0, 0, 0, 0, 0, 0, 0, 0, 0, 0, 0, 0, 0, 0, 0, 0, 0, 0, 0, 0, 0, 0, 0, 0, 0, 0, 0, 0, 0, 0, 0, 0, 0, 0, 0, 0, 0, 0, 0, 0, 0, 0, 0, 0, 0, 0, 0, 0, 0, 0, 0, 0, 0, 0, 0, 0, 0, 0, 0, 0, 0, 0, 0, 0, 0, 0, 0, 0, 0, 0, 0, 0, 0, 0, 0, 0, 0, 0, 0, 0, 0, 0, 0, 0, 0, 0, 0, 0, 0, 0, 0, 0, 0, 0, 0, 0, 0, 0, 0, 0, 0, 0, 0, 0, 0, 0, 0, 0, 0, 0, 0, 0, 0, 0, 0, 0, 0, 0, 0, 0, 0, 0, 0, 0, 0, 0, 0, 0, 0, 0, 0, 0, 0, 0, 0, 0, 0, 0, 0, 0, 0, 0, 0, 0, 0, 0, 0, 0, 0, 0, 0, 0, 0, 0, 0, 0, 0, 0, 0, 0, 0, 0, 0, 0, 0]
def gl0 : List (Nat × D) := [(2, .agg (tab0.map fun z => .int .u8 z)), (1, .int .i64 (id (α := Int) (default : Mx2)))]
@[simp] theorem glk_0 : glk gl0 2 = some (.agg (tab0.map fun z => .int .u8 z)) := rfl
def orc0 : FuncId → Option (List AV → Option AV)
  | 67 => some (liftO hpO)
  | 69 => some (liftO idxO)
  | 107 => some (liftO ibO)
  | _ => none
noncomputable def ctx : Ctx := ⟨Tryd.prog, gl0, fun f => keepL.getD f (fun _ => []), fun f => ghL.getD f (fun _ => []), fun f => mdL.getD f (fun _ => false), fun f => fpL.getD f ⟨[], false, [], [], false⟩, fun f => odL.getD f (fun _ => []), orc0, fun f => flL.getD f (fun _ => []), none⟩
@[simp] theorem ctx_P : ctx.P = Tryd.prog := rfl
@[simp] theorem ctx_gl : ctx.gl = gl0 := rfl
@[simp] def codeOf (fn : Func) : Code := fn.body.getD .skip
@[simp] theorem keepE3 : ctx.keep 3 = keep3 := rfl
@[simp] theorem ghE3 : ctx.gh 3 = fun _ => [] := rfl
@[simp] theorem mdE3 : ctx.md 3 = md3 := rfl
@[simp] theorem fpE3 : ctx.fp 3 = fp3 := rfl
@[simp] theorem flE3 : ctx.fl 3 = fun _ => [] := rfl
@[simp] theorem odE3 : ctx.od 3 = od3 := rfl
theorem run3 {args : List AV} {cs : List Cont} (h : callOk 93 fp3 args cs = true) : callT ctx 3 args cs = denK ctx 3 (codeOf Tryd.f3) (entry 93 gl0 args cs fp3.sites) (finK Tryd.prog fp3 cs.length [.tmp 4]) :=
  call_run rfl rfl Tryd.func3 rfl (by kernel_rfl) Tryd.ntmps3 (by rw [Tryd.results3]) rfl rfl h
theorem ov3 {cl : CallFn} (hcl : ∀ g a c r, cl g a c = some r → callT ctx g a c = some r) {args : List AV} {cs : List Cont} (h : callOk 93 fp3 args cs = true) : Le (denK (ctx.over cl) 3 (codeOf Tryd.f3) (entry 93 gl0 args cs fp3.sites) (finK Tryd.prog fp3 cs.length [.tmp 4])) (callT ctx 3 args cs) :=
  fun r hr => by rw [run3 h]; exact denK_over hcl hr
@[simp] theorem keepE4 : ctx.keep 4 = keep4 := rfl
@[simp] theorem ghE4 : ctx.gh 4 = fun _ => [] := rfl
@[simp] theorem mdE4 : ctx.md 4 = md4 := rfl
@[simp] theorem fpE4 : ctx.fp 4 = fp4 := rfl
@[simp] theorem flE4 : ctx.fl 4 = fun _ => [] := rfl
@[simp] theorem odE4 : ctx.od 4 = od4 := rfl
theorem run4 {args : List AV} {cs : List Cont} (h : callOk 109 fp4 args cs = true) : callT ctx 4 args cs = denK ctx 4 (codeOf Tryd.f4) (entry 109 gl0 args cs fp4.sites) (finK Tryd.prog fp4 cs.length [.tmp 4]) :=
  call_run rfl rfl Tryd.func4 rfl (by kernel_rfl) Tryd.ntmps4 (by rw [Tryd.results4]) rfl rfl h
theorem ov4 {cl : CallFn} (hcl : ∀ g a c r, cl g a c = some r → callT ctx g a c = some r) {args : List AV} {cs : List Cont} (h : callOk 109 fp4 args cs = true) : Le (denK (ctx.over cl) 4 (codeOf Tryd.f4) (entry 109 gl0 args cs fp4.sites) (finK Tryd.prog fp4 cs.length [.tmp 4])) (callT ctx 4 args cs) :=
  fun r hr => by rw [run4 h]; exact denK_over hcl hr
@[simp] theorem keepE7 : ctx.keep 7 = keep7 := rfl
@[simp] theorem ghE7 : ctx.gh 7 = fun _ => [] := rfl
@[simp] theorem mdE7 : ctx.md 7 = md7 := rfl
@[simp] theorem fpE7 : ctx.fp 7 = fp7 := rfl
@[simp] theorem flE7 : ctx.fl 7 = fun _ => [] := rfl
@[simp] theorem odE7 : ctx.od 7 = od7 := rfl
theorem run7 {args : List AV} {cs : List Cont} (h : callOk 65 fp7 args cs = true) : callT ctx 7 args cs = denK ctx 7 (codeOf Tryd.f7) (entry 65 gl0 args cs fp7.sites) (finK Tryd.prog fp7 cs.length [.tmp 4]) :=
  call_run rfl rfl Tryd.func7 rfl (by kernel_rfl) Tryd.ntmps7 (by rw [Tryd.results7]) rfl rfl h
theorem ov7 {cl : CallFn} (hcl : ∀ g a c r, cl g a c = some r → callT ctx g a c = some r) {args : List AV} {cs : List Cont} (h : callOk 65 fp7 args cs = true) : Le (denK (ctx.over cl) 7 (codeOf Tryd.f7) (entry 65 gl0 args cs fp7.sites) (finK Tryd.prog fp7 cs.length [.tmp 4])) (callT ctx 7 args cs) :=
  fun r hr => by rw [run7 h]; exact denK_over hcl hr
@[simp] theorem keepE8 : ctx.keep 8 = keep8 := rfl
@[simp] theorem ghE8 : ctx.gh 8 = fun _ => [] := rfl
@[simp] theorem mdE8 : ctx.md 8 = md8 := rfl
@[simp] theorem fpE8 : ctx.fp 8 = fp8 := rfl
@[simp] theorem flE8 : ctx.fl 8 = fun _ => [] := rfl
@[simp] theorem odE8 : ctx.od 8 = od8 := rfl
theorem run8 {args : List AV} {cs : List Cont} (h : callOk 71 fp8 args cs = true) : callT ctx 8 args cs = denK ctx 8 (codeOf Tryd.f8) (entry 71 gl0 args cs fp8.sites) (finK Tryd.prog fp8 cs.length [.tmp 2]) :=
  call_run rfl rfl Tryd.func8 rfl (by kernel_rfl) Tryd.ntmps8 (by rw [Tryd.results8]) rfl rfl h
theorem ov8 {cl : CallFn} (hcl : ∀ g a c r, cl g a c = some r → callT ctx g a c = some r) {args : List AV} {cs : List Cont} (h : callOk 71 fp8 args cs = true) : Le (denK (ctx.over cl) 8 (codeOf Tryd.f8) (entry 71 gl0 args cs fp8.sites) (finK Tryd.prog fp8 cs.length [.tmp 2])) (callT ctx 8 args cs) :=
  fun r hr => by rw [run8 h]; exact denK_over hcl hr
@[simp] theorem keepE11 : ctx.keep 11 = keep11 := rfl
@[simp] theorem ghE11 : ctx.gh 11 = fun _ => [] := rfl
@[simp] theorem mdE11 : ctx.md 11 = md11 := rfl
@[simp] theorem fpE11 : ctx.fp 11 = fp11 := rfl
@[simp] theorem flE11 : ctx.fl 11 = fun _ => [] := rfl
@[simp] theorem odE11 : ctx.od 11 = od11 := rfl
theorem run11 {args : List AV} {cs : List Cont} (h : callOk 45 fp11 args cs = true) : callT ctx 11 args cs = denK ctx 11 (codeOf Tryd.f11) (entry 45 gl0 args cs fp11.sites) (finK Tryd.prog fp11 cs.length [.tmp 0]) :=
  call_run rfl rfl Tryd.func11 rfl (by kernel_rfl) Tryd.ntmps11 (by rw [Tryd.results11]) rfl rfl h
theorem ov11 {cl : CallFn} (hcl : ∀ g a c r, cl g a c = some r → callT ctx g a c = some r) {args : List AV} {cs : List Cont} (h : callOk 45 fp11 args cs = true) : Le (denK (ctx.over cl) 11 (codeOf Tryd.f11) (entry 45 gl0 args cs fp11.sites) (finK Tryd.prog fp11 cs.length [.tmp 0])) (callT ctx 11 args cs) :=
  fun r hr => by rw [run11 h]; exact denK_over hcl hr
@[simp] theorem keepE12 : ctx.keep 12 = keep12 := rfl
@[simp] theorem ghE12 : ctx.gh 12 = gh12 := rfl
@[simp] theorem mdE12 : ctx.md 12 = md12 := rfl
@[simp] theorem fpE12 : ctx.fp 12 = fp12 := rfl
@[simp] theorem flE12 : ctx.fl 12 = fun _ => [] := rfl
@[simp] theorem odE12 : ctx.od 12 = od12 := rfl
theorem run12 {args : List AV} {cs : List Cont} (h : callOk 25 fp12 args cs = true) : callT ctx 12 args cs = denKD ctx 12 (codeOf Tryd.f12) (entry 25 gl0 args cs fp12.sites) [] (finKD ctx fp12 cs.length [.cell 2 26, .cell 3 27, .cell 4 29]) :=
  call_runD rfl rfl Tryd.func12 rfl (by kernel_rfl) Tryd.ntmps12 (by rw [Tryd.results12]) rfl h
@[simp] theorem keepE17 : ctx.keep 17 = keep17 := rfl
@[simp] theorem ghE17 : ctx.gh 17 = fun _ => [] := rfl
@[simp] theorem mdE17 : ctx.md 17 = md17 := rfl
@[simp] theorem fpE17 : ctx.fp 17 = fp17 := rfl
@[simp] theorem flE17 : ctx.fl 17 = fun _ => [] := rfl
@[simp] theorem odE17 : ctx.od 17 = od17 := rfl
theorem run17 {args : List AV} {cs : List Cont} (h : callOk 26 fp17 args cs = true) : callT ctx 17 args cs = denK ctx 17 (codeOf Tryd.f17) (entry 26 gl0 args cs fp17.sites) (finK Tryd.prog fp17 cs.length [.tmp 4]) :=
  call_run rfl rfl Tryd.func17 rfl (by kernel_rfl) Tryd.ntmps17 (by rw [Tryd.results17]) rfl rfl h
theorem ov17 {cl : CallFn} (hcl : ∀ g a c r, cl g a c = some r → callT ctx g a c = some r) {args : List AV} {cs : List Cont} (h : callOk 26 fp17 args cs = true) : Le (denK (ctx.over cl) 17 (codeOf Tryd.f17) (entry 26 gl0 args cs fp17.sites) (finK Tryd.prog fp17 cs.length [.tmp 4])) (callT ctx 17 args cs) :=
  fun r hr => by rw [run17 h]; exact denK_over hcl hr
@[simp] theorem keepE18 : ctx.keep 18 = keep18 := rfl
@[simp] theorem ghE18 : ctx.gh 18 = fun _ => [] := rfl
@[simp] theorem mdE18 : ctx.md 18 = md18 := rfl
@[simp] theorem fpE18 : ctx.fp 18 = fp18 := rfl
@[simp] theorem flE18 : ctx.fl 18 = fun _ => [] := rfl
@[simp] theorem odE18 : ctx.od 18 = od18 := rfl
theorem run18 {args : List AV} {cs : List Cont} (h : callOk 54 fp18 args cs = true) : callT ctx 18 args cs = denK ctx 18 (codeOf Tryd.f18) (entry 54 gl0 args cs fp18.sites) (finK Tryd.prog fp18 cs.length [.tmp 6]) :=
  call_run rfl rfl Tryd.func18 rfl (by kernel_rfl) Tryd.ntmps18 (by rw [Tryd.results18]) rfl rfl h
theorem ov18 {cl : CallFn} (hcl : ∀ g a c r, cl g a c = some r → callT ctx g a c = some r) {args : List AV} {cs : List Cont} (h : callOk 54 fp18 args cs = true) : Le (denK (ctx.over cl) 18 (codeOf Tryd.f18) (entry 54 gl0 args cs fp18.sites) (finK Tryd.prog fp18 cs.length [.tmp 6])) (callT ctx 18 args cs) :=
  fun r hr => by rw [run18 h]; exact denK_over hcl hr
@[simp] theorem keepE23 : ctx.keep 23 = keep23 := rfl
@[simp] theorem ghE23 : ctx.gh 23 = fun _ => [] := rfl
@[simp] theorem mdE23 : ctx.md 23 = md23 := rfl
@[simp] theorem fpE23 : ctx.fp 23 = fp23 := rfl
@[simp] theorem flE23 : ctx.fl 23 = fun _ => [] := rfl
@[simp] theorem odE23 : ctx.od 23 = od23 := rfl
theorem run23 {args : List AV} {cs : List Cont} (h : callOk 62 fp23 args cs = true) : callT ctx 23 args cs = denK ctx 23 (codeOf Tryd.f23) (entry 62 gl0 args cs fp23.sites) (finK Tryd.prog fp23 cs.length [.tmp 2, .tmp 3, .cell 4 29]) :=
  call_run rfl rfl Tryd.func23 rfl (by kernel_rfl) Tryd.ntmps23 (by rw [Tryd.results23]) rfl rfl h
theorem ov23 {cl : CallFn} (hcl : ∀ g a c r, cl g a c = some r → callT ctx g a c = some r) {args : List AV} {cs : List Cont} (h : callOk 62 fp23 args cs = true) : Le (denK (ctx.over cl) 23 (codeOf Tryd.f23) (entry 62 gl0 args cs fp23.sites) (finK Tryd.prog fp23 cs.length [.tmp 2, .tmp 3, .cell 4 29])) (callT ctx 23 args cs) :=
  fun r hr => by rw [run23 h]; exact denK_over hcl hr
@[simp] theorem keepE24 : ctx.keep 24 = keep24 := rfl
@[simp] theorem ghE24 : ctx.gh 24 = fun _ => [] := rfl
@[simp] theorem mdE24 : ctx.md 24 = md24 := rfl
@[simp] theorem fpE24 : ctx.fp 24 = fp24 := rfl
@[simp] theorem flE24 : ctx.fl 24 = fun _ => [] := rfl
@[simp] theorem odE24 : ctx.od 24 = od24 := rfl
theorem run24 {args ys : List AV} {rv : AV} {cs : List Cont} (hl : args.getLast? = some rv) (hy : args.dropLast = ys) (h : callOk 22 fp24 ys cs = true) : recT ctx 24 args cs = denRK ctx 24 rv (codeOf Tryd.f24) (entry 22 gl0 ys cs fp24.sites) (finRK Tryd.prog fp24 cs.length []) :=
  rec_run Tryd.func24 rfl Tryd.ntmps24 (by rw [Tryd.results24]) rfl hl hy h
@[simp] theorem keepE25 : ctx.keep 25 = keep25 := rfl
@[simp] theorem ghE25 : ctx.gh 25 = fun _ => [] := rfl
@[simp] theorem mdE25 : ctx.md 25 = md25 := rfl
@[simp] theorem fpE25 : ctx.fp 25 = fp25 := rfl
@[simp] theorem flE25 : ctx.fl 25 = fun _ => [] := rfl
@[simp] theorem odE25 : ctx.od 25 = od25 := rfl
theorem run25 {args : List AV} {cs : List Cont} (h : callOk 26 fp25 args cs = true) : callT ctx 25 args cs = denK ctx 25 (codeOf Tryd.f25) (entry 26 gl0 args cs fp25.sites) (finK Tryd.prog fp25 cs.length [.cell 2 26]) :=
  call_run rfl rfl Tryd.func25 rfl (by kernel_rfl) Tryd.ntmps25 (by rw [Tryd.results25]) rfl rfl h
theorem ov25 {cl : CallFn} (hcl : ∀ g a c r, cl g a c = some r → callT ctx g a c = some r) {args : List AV} {cs : List Cont} (h : callOk 26 fp25 args cs = true) : Le (denK (ctx.over cl) 25 (codeOf Tryd.f25) (entry 26 gl0 args cs fp25.sites) (finK Tryd.prog fp25 cs.length [.cell 2 26])) (callT ctx 25 args cs) :=
  fun r hr => by rw [run25 h]; exact denK_over hcl hr
@[simp] theorem keepE27 : ctx.keep 27 = keep27 := rfl
@[simp] theorem ghE27 : ctx.gh 27 = fun _ => [] := rfl
@[simp] theorem mdE27 : ctx.md 27 = md27 := rfl
@[simp] theorem fpE27 : ctx.fp 27 = fp27 := rfl
@[simp] theorem flE27 : ctx.fl 27 = fun _ => [] := rfl
@[simp] theorem odE27 : ctx.od 27 = od27 := rfl
theorem run27 {args : List AV} {cs : List Cont} (h : callOk 65 fp27 args cs = true) : callT ctx 27 args cs = denK ctx 27 (codeOf Tryd.f27) (entry 65 gl0 args cs fp27.sites) (finK Tryd.prog fp27 cs.length [.tmp 4]) :=
  call_run rfl rfl Tryd.func27 rfl (by kernel_rfl) Tryd.ntmps27 (by rw [Tryd.results27]) rfl rfl h
theorem ov27 {cl : CallFn} (hcl : ∀ g a c r, cl g a c = some r → callT ctx g a c = some r) {args : List AV} {cs : List Cont} (h : callOk 65 fp27 args cs = true) : Le (denK (ctx.over cl) 27 (codeOf Tryd.f27) (entry 65 gl0 args cs fp27.sites) (finK Tryd.prog fp27 cs.length [.tmp 4])) (callT ctx 27 args cs) :=
  fun r hr => by rw [run27 h]; exact denK_over hcl hr
@[simp] theorem keepE34 : ctx.keep 34 = keep34 := rfl
@[simp] theorem ghE34 : ctx.gh 34 = fun _ => [] := rfl
@[simp] theorem mdE34 : ctx.md 34 = md34 := rfl
@[simp] theorem fpE34 : ctx.fp 34 = fp34 := rfl
@[simp] theorem flE34 : ctx.fl 34 = fun _ => [] := rfl
@[simp] theorem odE34 : ctx.od 34 = od34 := rfl
theorem run34 {args : List AV} {cs : List Cont} (h : callOk 32 fp34 args cs = true) : callT ctx 34 args cs = denK ctx 34 (codeOf Tryd.f34) (entry 32 gl0 args cs fp34.sites) (finK Tryd.prog fp34 cs.length [.tmp 6]) :=
  call_run rfl rfl Tryd.func34 rfl (by kernel_rfl) Tryd.ntmps34 (by rw [Tryd.results34]) rfl rfl h
theorem ov34 {cl : CallFn} (hcl : ∀ g a c r, cl g a c = some r → callT ctx g a c = some r) {args : List AV} {cs : List Cont} (h : callOk 32 fp34 args cs = true) : Le (denK (ctx.over cl) 34 (codeOf Tryd.f34) (entry 32 gl0 args cs fp34.sites) (finK Tryd.prog fp34 cs.length [.tmp 6])) (callT ctx 34 args cs) :=
  fun r hr => by rw [run34 h]; exact denK_over hcl hr
@[simp] theorem keepE35 : ctx.keep 35 = keep35 := rfl
@[simp] theorem ghE35 : ctx.gh 35 = fun _ => [] := rfl
@[simp] theorem mdE35 : ctx.md 35 = md35 := rfl
@[simp] theorem fpE35 : ctx.fp 35 = fp35 := rfl
@[simp] theorem flE35 : ctx.fl 35 = fun _ => [] := rfl
@[simp] theorem odE35 : ctx.od 35 = od35 := rfl
theorem run35 {args : List AV} {cs : List Cont} (h : callOk 10 fp35 args cs = true) : callT ctx 35 args cs = denK ctx 35 (codeOf Tryd.f35) (entry 10 gl0 args cs fp35.sites) (finK Tryd.prog fp35 cs.length [.tmp 4]) :=
  call_run rfl rfl Tryd.func35 rfl (by kernel_rfl) Tryd.ntmps35 (by rw [Tryd.results35]) rfl rfl h
theorem ov35 {cl : CallFn} (hcl : ∀ g a c r, cl g a c = some r → callT ctx g a c = some r) {args : List AV} {cs : List Cont} (h : callOk 10 fp35 args cs = true) : Le (denK (ctx.over cl) 35 (codeOf Tryd.f35) (entry 10 gl0 args cs fp35.sites) (finK Tryd.prog fp35 cs.length [.tmp 4])) (callT ctx 35 args cs) :=
  fun r hr => by rw [run35 h]; exact denK_over hcl hr
@[simp] theorem keepE36 : ctx.keep 36 = keep36 := rfl
@[simp] theorem ghE36 : ctx.gh 36 = fun _ => [] := rfl
@[simp] theorem mdE36 : ctx.md 36 = md36 := rfl
@[simp] theorem fpE36 : ctx.fp 36 = fp36 := rfl
@[simp] theorem flE36 : ctx.fl 36 = fun _ => [] := rfl
@[simp] theorem odE36 : ctx.od 36 = od36 := rfl
theorem run36 {args : List AV} {cs : List Cont} (h : callOk 8 fp36 args cs = true) : callT ctx 36 args cs = denK ctx 36 (codeOf Tryd.f36) (entry 8 gl0 args cs fp36.sites) (finK Tryd.prog fp36 cs.length [.tmp 4]) :=
  call_run rfl rfl Tryd.func36 rfl (by kernel_rfl) Tryd.ntmps36 (by rw [Tryd.results36]) rfl rfl h
theorem ov36 {cl : CallFn} (hcl : ∀ g a c r, cl g a c = some r → callT ctx g a c = some r) {args : List AV} {cs : List Cont} (h : callOk 8 fp36 args cs = true) : Le (denK (ctx.over cl) 36 (codeOf Tryd.f36) (entry 8 gl0 args cs fp36.sites) (finK Tryd.prog fp36 cs.length [.tmp 4])) (callT ctx 36 args cs) :=
  fun r hr => by rw [run36 h]; exact denK_over hcl hr
@[simp] theorem keepE37 : ctx.keep 37 = keep37 := rfl
@[simp] theorem ghE37 : ctx.gh 37 = fun _ => [] := rfl
@[simp] theorem mdE37 : ctx.md 37 = md37 := rfl
@[simp] theorem fpE37 : ctx.fp 37 = fp37 := rfl
@[simp] theorem flE37 : ctx.fl 37 = fun _ => [] := rfl
@[simp] theorem odE37 : ctx.od 37 = od37 := rfl
theorem run37 {args : List AV} {cs : List Cont} (h : callOk 160 fp37 args cs = true) : callT ctx 37 args cs = denK ctx 37 (codeOf Tryd.f37) (entry 160 gl0 args cs fp37.sites) (finK Tryd.prog fp37 cs.length [.tmp 6]) :=
  call_run rfl rfl Tryd.func37 rfl (by kernel_rfl) Tryd.ntmps37 (by rw [Tryd.results37]) rfl rfl h
theorem ov37 {cl : CallFn} (hcl : ∀ g a c r, cl g a c = some r → callT ctx g a c = some r) {args : List AV} {cs : List Cont} (h : callOk 160 fp37 args cs = true) : Le (denK (ctx.over cl) 37 (codeOf Tryd.f37) (entry 160 gl0 args cs fp37.sites) (finK Tryd.prog fp37 cs.length [.tmp 6])) (callT ctx 37 args cs) :=
  fun r hr => by rw [run37 h]; exact denK_over hcl hr
@[simp] theorem keepE45 : ctx.keep 45 = keep45 := rfl
@[simp] theorem ghE45 : ctx.gh 45 = fun _ => [] := rfl
@[simp] theorem mdE45 : ctx.md 45 = md45 := rfl
@[simp] theorem fpE45 : ctx.fp 45 = fp45 := rfl
@[simp] theorem flE45 : ctx.fl 45 = fun _ => [] := rfl
@[simp] theorem odE45 : ctx.od 45 = od45 := rfl
theorem run45 {args : List AV} {cs : List Cont} (h : callOk 51 fp45 args cs = true) : callT ctx 45 args cs = denK ctx 45 (codeOf Tryd.f45) (entry 51 gl0 args cs fp45.sites) (finK Tryd.prog fp45 cs.length [.tmp 2]) :=
  call_run rfl rfl Tryd.func45 rfl (by kernel_rfl) Tryd.ntmps45 (by rw [Tryd.results45]) rfl rfl h
theorem ov45 {cl : CallFn} (hcl : ∀ g a c r, cl g a c = some r → callT ctx g a c = some r) {args : List AV} {cs : List Cont} (h : callOk 51 fp45 args cs = true) : Le (denK (ctx.over cl) 45 (codeOf Tryd.f45) (entry 51 gl0 args cs fp45.sites) (finK Tryd.prog fp45 cs.length [.tmp 2])) (callT ctx 45 args cs) :=
  fun r hr => by rw [run45 h]; exact denK_over hcl hr
@[simp] theorem keepE46 : ctx.keep 46 = keep46 := rfl
@[simp] theorem ghE46 : ctx.gh 46 = fun _ => [] := rfl
@[simp] theorem mdE46 : ctx.md 46 = md46 := rfl
@[simp] theorem fpE46 : ctx.fp 46 = fp46 := rfl
@[simp] theorem flE46 : ctx.fl 46 = fun _ => [] := rfl
@[simp] theorem odE46 : ctx.od 46 = od46 := rfl
theorem run46 {args : List AV} {cs : List Cont} (h : callOk 12 fp46 args cs = true) : callT ctx 46 args cs = denK ctx 46 (codeOf Tryd.f46) (entry 12 gl0 args cs fp46.sites) (finK Tryd.prog fp46 cs.length [.tmp 2]) :=
  call_run rfl rfl Tryd.func46 rfl (by kernel_rfl) Tryd.ntmps46 (by rw [Tryd.results46]) rfl rfl h
theorem ov46 {cl : CallFn} (hcl : ∀ g a c r, cl g a c = some r → callT ctx g a c = some r) {args : List AV} {cs : List Cont} (h : callOk 12 fp46 args cs = true) : Le (denK (ctx.over cl) 46 (codeOf Tryd.f46) (entry 12 gl0 args cs fp46.sites) (finK Tryd.prog fp46 cs.length [.tmp 2])) (callT ctx 46 args cs) :=
  fun r hr => by rw [run46 h]; exact denK_over hcl hr
@[simp] theorem keepE47 : ctx.keep 47 = keep47 := rfl
@[simp] theorem ghE47 : ctx.gh 47 = fun _ => [] := rfl
@[simp] theorem mdE47 : ctx.md 47 = md47 := rfl
@[simp] theorem fpE47 : ctx.fp 47 = fp47 := rfl
@[simp] theorem flE47 : ctx.fl 47 = fun _ => [] := rfl
@[simp] theorem odE47 : ctx.od 47 = od47 := rfl
theorem run47 {args : List AV} {cs : List Cont} (h : callOk 54 fp47 args cs = true) : callT ctx 47 args cs = denK ctx 47 (codeOf Tryd.f47) (entry 54 gl0 args cs fp47.sites) (finK Tryd.prog fp47 cs.length [.cell 4 29, .tmp 5]) :=
  call_run rfl rfl Tryd.func47 rfl (by kernel_rfl) Tryd.ntmps47 (by rw [Tryd.results47]) rfl rfl h
theorem ov47 {cl : CallFn} (hcl : ∀ g a c r, cl g a c = some r → callT ctx g a c = some r) {args : List AV} {cs : List Cont} (h : callOk 54 fp47 args cs = true) : Le (denK (ctx.over cl) 47 (codeOf Tryd.f47) (entry 54 gl0 args cs fp47.sites) (finK Tryd.prog fp47 cs.length [.cell 4 29, .tmp 5])) (callT ctx 47 args cs) :=
  fun r hr => by rw [run47 h]; exact denK_over hcl hr
@[simp] theorem keepE48 : ctx.keep 48 = keep48 := rfl
@[simp] theorem ghE48 : ctx.gh 48 = fun _ => [] := rfl
@[simp] theorem mdE48 : ctx.md 48 = md48 := rfl
@[simp] theorem fpE48 : ctx.fp 48 = fp48 := rfl
@[simp] theorem flE48 : ctx.fl 48 = fun _ => [] := rfl
@[simp] theorem odE48 : ctx.od 48 = od48 := rfl
theorem run48 {args : List AV} {cs : List Cont} (h : callOk 42 fp48 args cs = true) : callT ctx 48 args cs = denK ctx 48 (codeOf Tryd.f48) (entry 42 gl0 args cs fp48.sites) (finK Tryd.prog fp48 cs.length []) :=
  call_run rfl rfl Tryd.func48 rfl (by kernel_rfl) Tryd.ntmps48 (by rw [Tryd.results48]) rfl rfl h
theorem ov48 {cl : CallFn} (hcl : ∀ g a c r, cl g a c = some r → callT ctx g a c = some r) {args : List AV} {cs : List Cont} (h : callOk 42 fp48 args cs = true) : Le (denK (ctx.over cl) 48 (codeOf Tryd.f48) (entry 42 gl0 args cs fp48.sites) (finK Tryd.prog fp48 cs.length [])) (callT ctx 48 args cs) :=
  fun r hr => by rw [run48 h]; exact denK_over hcl hr
@[simp] theorem keepE49 : ctx.keep 49 = keep49 := rfl
@[simp] theorem ghE49 : ctx.gh 49 = fun _ => [] := rfl
@[simp] theorem mdE49 : ctx.md 49 = md49 := rfl
@[simp] theorem fpE49 : ctx.fp 49 = fp49 := rfl
@[simp] theorem flE49 : ctx.fl 49 = fun _ => [] := rfl
@[simp] theorem odE49 : ctx.od 49 = od49 := rfl
theorem run49 {args : List AV} {cs : List Cont} (h : callOk 11 fp49 args cs = true) : callT ctx 49 args cs = denK ctx 49 (codeOf Tryd.f49) (entry 11 gl0 args cs fp49.sites) (finK Tryd.prog fp49 cs.length []) :=
  call_run rfl rfl Tryd.func49 rfl (by kernel_rfl) Tryd.ntmps49 (by rw [Tryd.results49]) rfl rfl h
theorem ov49 {cl : CallFn} (hcl : ∀ g a c r, cl g a c = some r → callT ctx g a c = some r) {args : List AV} {cs : List Cont} (h : callOk 11 fp49 args cs = true) : Le (denK (ctx.over cl) 49 (codeOf Tryd.f49) (entry 11 gl0 args cs fp49.sites) (finK Tryd.prog fp49 cs.length [])) (callT ctx 49 args cs) :=
  fun r hr => by rw [run49 h]; exact denK_over hcl hr
@[simp] theorem keepE50 : ctx.keep 50 = keep50 := rfl
@[simp] theorem ghE50 : ctx.gh 50 = fun _ => [] := rfl
@[simp] theorem mdE50 : ctx.md 50 = md50 := rfl
@[simp] theorem fpE50 : ctx.fp 50 = fp50 := rfl
@[simp] theorem flE50 : ctx.fl 50 = fun _ => [] := rfl
@[simp] theorem odE50 : ctx.od 50 = od50 := rfl
theorem run50 {args : List AV} {cs : List Cont} (h : callOk 15 fp50 args cs = true) : callT ctx 50 args cs = denK ctx 50 (codeOf Tryd.f50) (entry 15 gl0 args cs fp50.sites) (finK Tryd.prog fp50 cs.length [.cell 4 29]) :=
  call_run rfl rfl Tryd.func50 rfl (by kernel_rfl) Tryd.ntmps50 (by rw [Tryd.results50]) rfl rfl h
theorem ov50 {cl : CallFn} (hcl : ∀ g a c r, cl g a c = some r → callT ctx g a c = some r) {args : List AV} {cs : List Cont} (h : callOk 15 fp50 args cs = true) : Le (denK (ctx.over cl) 50 (codeOf Tryd.f50) (entry 15 gl0 args cs fp50.sites) (finK Tryd.prog fp50 cs.length [.cell 4 29])) (callT ctx 50 args cs) :=
  fun r hr => by rw [run50 h]; exact denK_over hcl hr
@[simp] theorem keepE51 : ctx.keep 51 = keep51 := rfl
@[simp] theorem ghE51 : ctx.gh 51 = fun _ => [] := rfl
@[simp] theorem mdE51 : ctx.md 51 = md51 := rfl
@[simp] theorem fpE51 : ctx.fp 51 = fp51 := rfl
@[simp] theorem flE51 : ctx.fl 51 = fun _ => [] := rfl
@[simp] theorem odE51 : ctx.od 51 = od51 := rfl
theorem run51 {args : List AV} {cs : List Cont} (h : callOk 18 fp51 args cs = true) : callT ctx 51 args cs = denK ctx 51 (codeOf Tryd.f51) (entry 18 gl0 args cs fp51.sites) (finK Tryd.prog fp51 cs.length []) :=
  call_run rfl rfl Tryd.func51 rfl (by kernel_rfl) Tryd.ntmps51 (by rw [Tryd.results51]) rfl rfl h
theorem ov51 {cl : CallFn} (hcl : ∀ g a c r, cl g a c = some r → callT ctx g a c = some r) {args : List AV} {cs : List Cont} (h : callOk 18 fp51 args cs = true) : Le (denK (ctx.over cl) 51 (codeOf Tryd.f51) (entry 18 gl0 args cs fp51.sites) (finK Tryd.prog fp51 cs.length [])) (callT ctx 51 args cs) :=
  fun r hr => by rw [run51 h]; exact denK_over hcl hr
@[simp] theorem keepE52 : ctx.keep 52 = keep52 := rfl
@[simp] theorem ghE52 : ctx.gh 52 = fun _ => [] := rfl
@[simp] theorem mdE52 : ctx.md 52 = md52 := rfl
@[simp] theorem fpE52 : ctx.fp 52 = fp52 := rfl
@[simp] theorem flE52 : ctx.fl 52 = fun _ => [] := rfl
@[simp] theorem odE52 : ctx.od 52 = od52 := rfl
theorem run52 {args : List AV} {cs : List Cont} (h : callOk 17 fp52 args cs = true) : callT ctx 52 args cs = denK ctx 52 (codeOf Tryd.f52) (entry 17 gl0 args cs fp52.sites) (finK Tryd.prog fp52 cs.length [.tmp 4]) :=
  call_run rfl rfl Tryd.func52 rfl (by kernel_rfl) Tryd.ntmps52 (by rw [Tryd.results52]) rfl rfl h
theorem ov52 {cl : CallFn} (hcl : ∀ g a c r, cl g a c = some r → callT ctx g a c = some r) {args : List AV} {cs : List Cont} (h : callOk 17 fp52 args cs = true) : Le (denK (ctx.over cl) 52 (codeOf Tryd.f52) (entry 17 gl0 args cs fp52.sites) (finK Tryd.prog fp52 cs.length [.tmp 4])) (callT ctx 52 args cs) :=
  fun r hr => by rw [run52 h]; exact denK_over hcl hr
@[simp] theorem keepE57 : ctx.keep 57 = keep57 := rfl
@[simp] theorem ghE57 : ctx.gh 57 = fun _ => [] := rfl
@[simp] theorem mdE57 : ctx.md 57 = md57 := rfl
@[simp] theorem fpE57 : ctx.fp 57 = fp57 := rfl
@[simp] theorem flE57 : ctx.fl 57 = fun _ => [] := rfl
@[simp] theorem odE57 : ctx.od 57 = od57 := rfl
theorem run57 {args : List AV} {cs : List Cont} (h : callOk 32 fp57 args cs = true) : callT ctx 57 args cs = denK ctx 57 (codeOf Tryd.f57) (entry 32 gl0 args cs fp57.sites) (finK Tryd.prog fp57 cs.length [.tmp 6]) :=
  call_run rfl rfl Tryd.func57 rfl (by kernel_rfl) Tryd.ntmps57 (by rw [Tryd.results57]) rfl rfl h
theorem ov57 {cl : CallFn} (hcl : ∀ g a c r, cl g a c = some r → callT ctx g a c = some r) {args : List AV} {cs : List Cont} (h : callOk 32 fp57 args cs = true) : Le (denK (ctx.over cl) 57 (codeOf Tryd.f57) (entry 32 gl0 args cs fp57.sites) (finK Tryd.prog fp57 cs.length [.tmp 6])) (callT ctx 57 args cs) :=
  fun r hr => by rw [run57 h]; exact denK_over hcl hr
@[simp] theorem keepE58 : ctx.keep 58 = keep58 := rfl
@[simp] theorem ghE58 : ctx.gh 58 = fun _ => [] := rfl
@[simp] theorem mdE58 : ctx.md 58 = md58 := rfl
@[simp] theorem fpE58 : ctx.fp 58 = fp58 := rfl
@[simp] theorem flE58 : ctx.fl 58 = fun _ => [] := rfl
@[simp] theorem odE58 : ctx.od 58 = od58 := rfl
theorem run58 {args : List AV} {cs : List Cont} (h : callOk 59 fp58 args cs = true) : callT ctx 58 args cs = denK ctx 58 (codeOf Tryd.f58) (entry 59 gl0 args cs fp58.sites) (finK Tryd.prog fp58 cs.length [.tmp 4]) :=
  call_run rfl rfl Tryd.func58 rfl (by kernel_rfl) Tryd.ntmps58 (by rw [Tryd.results58]) rfl rfl h
theorem ov58 {cl : CallFn} (hcl : ∀ g a c r, cl g a c = some r → callT ctx g a c = some r) {args : List AV} {cs : List Cont} (h : callOk 59 fp58 args cs = true) : Le (denK (ctx.over cl) 58 (codeOf Tryd.f58) (entry 59 gl0 args cs fp58.sites) (finK Tryd.prog fp58 cs.length [.tmp 4])) (callT ctx 58 args cs) :=
  fun r hr => by rw [run58 h]; exact denK_over hcl hr
@[simp] theorem keepE59 : ctx.keep 59 = keep59 := rfl
@[simp] theorem ghE59 : ctx.gh 59 = fun _ => [] := rfl
@[simp] theorem mdE59 : ctx.md 59 = md59 := rfl
@[simp] theorem fpE59 : ctx.fp 59 = fp59 := rfl
@[simp] theorem flE59 : ctx.fl 59 = fun _ => [] := rfl
@[simp] theorem odE59 : ctx.od 59 = od59 := rfl
theorem run59 {args : List AV} {cs : List Cont} (h : callOk 74 fp59 args cs = true) : callT ctx 59 args cs = denK ctx 59 (codeOf Tryd.f59) (entry 74 gl0 args cs fp59.sites) (finK Tryd.prog fp59 cs.length [.tmp 6]) :=
  call_run rfl rfl Tryd.func59 rfl (by kernel_rfl) Tryd.ntmps59 (by rw [Tryd.results59]) rfl rfl h
theorem ov59 {cl : CallFn} (hcl : ∀ g a c r, cl g a c = some r → callT ctx g a c = some r) {args : List AV} {cs : List Cont} (h : callOk 74 fp59 args cs = true) : Le (denK (ctx.over cl) 59 (codeOf Tryd.f59) (entry 74 gl0 args cs fp59.sites) (finK Tryd.prog fp59 cs.length [.tmp 6])) (callT ctx 59 args cs) :=
  fun r hr => by rw [run59 h]; exact denK_over hcl hr
@[simp] theorem keepE60 : ctx.keep 60 = keep60 := rfl
@[simp] theorem ghE60 : ctx.gh 60 = fun _ => [] := rfl
@[simp] theorem mdE60 : ctx.md 60 = md60 := rfl
@[simp] theorem fpE60 : ctx.fp 60 = fp60 := rfl
@[simp] theorem flE60 : ctx.fl 60 = fun _ => [] := rfl
@[simp] theorem odE60 : ctx.od 60 = od60 := rfl
theorem run60 {args : List AV} {cs : List Cont} (h : callOk 26 fp60 args cs = true) : callT ctx 60 args cs = denK ctx 60 (codeOf Tryd.f60) (entry 26 gl0 args cs fp60.sites) (finK Tryd.prog fp60 cs.length [.tmp 4]) :=
  call_run rfl rfl Tryd.func60 rfl (by kernel_rfl) Tryd.ntmps60 (by rw [Tryd.results60]) rfl rfl h
theorem ov60 {cl : CallFn} (hcl : ∀ g a c r, cl g a c = some r → callT ctx g a c = some r) {args : List AV} {cs : List Cont} (h : callOk 26 fp60 args cs = true) : Le (denK (ctx.over cl) 60 (codeOf Tryd.f60) (entry 26 gl0 args cs fp60.sites) (finK Tryd.prog fp60 cs.length [.tmp 4])) (callT ctx 60 args cs) :=
  fun r hr => by rw [run60 h]; exact denK_over hcl hr
@[simp] theorem keepE67 : ctx.keep 67 = keep67 := rfl
@[simp] theorem ghE67 : ctx.gh 67 = fun _ => [] := rfl
@[simp] theorem mdE67 : ctx.md 67 = md67 := rfl
@[simp] theorem fpE67 : ctx.fp 67 = fp67 := rfl
@[simp] theorem flE67 : ctx.fl 67 = fun _ => [] := rfl
@[simp] theorem odE67 : ctx.od 67 = od67 := rfl
@[simp] theorem orc_run67 {args : List AV} {cs : List Cont} : callT ctx 67 args cs = orcAns (liftO hpO) args cs := callT_orc rfl rfl
@[simp] theorem keepE68 : ctx.keep 68 = keep68 := rfl
@[simp] theorem ghE68 : ctx.gh 68 = fun _ => [] := rfl
@[simp] theorem mdE68 : ctx.md 68 = md68 := rfl
@[simp] theorem fpE68 : ctx.fp 68 = fp68 := rfl
@[simp] theorem flE68 : ctx.fl 68 = fun _ => [] := rfl
@[simp] theorem odE68 : ctx.od 68 = od68 := rfl
theorem run68 {args : List AV} {cs : List Cont} (h : callOk 8 fp68 args cs = true) : callT ctx 68 args cs = denK ctx 68 (codeOf Tryd.f68) (entry 8 gl0 args cs fp68.sites) (finK Tryd.prog fp68 cs.length [.tmp 4]) :=
  call_run rfl rfl Tryd.func68 rfl (by kernel_rfl) Tryd.ntmps68 (by rw [Tryd.results68]) rfl rfl h
theorem ov68 {cl : CallFn} (hcl : ∀ g a c r, cl g a c = some r → callT ctx g a c = some r) {args : List AV} {cs : List Cont} (h : callOk 8 fp68 args cs = true) : Le (denK (ctx.over cl) 68 (codeOf Tryd.f68) (entry 8 gl0 args cs fp68.sites) (finK Tryd.prog fp68 cs.length [.tmp 4])) (callT ctx 68 args cs) :=
  fun r hr => by rw [run68 h]; exact denK_over hcl hr
@[simp] theorem keepE69 : ctx.keep 69 = keep69 := rfl
@[simp] theorem ghE69 : ctx.gh 69 = fun _ => [] := rfl
@[simp] theorem mdE69 : ctx.md 69 = md69 := rfl
@[simp] theorem fpE69 : ctx.fp 69 = fp69 := rfl
@[simp] theorem flE69 : ctx.fl 69 = fun _ => [] := rfl
@[simp] theorem odE69 : ctx.od 69 = od69 := rfl
@[simp] theorem orc_run69 {args : List AV} {cs : List Cont} : callT ctx 69 args cs = orcAns (liftO idxO) args cs := callT_orc rfl rfl
@[simp] theorem keepE70 : ctx.keep 70 = keep70 := rfl
@[simp] theorem ghE70 : ctx.gh 70 = fun _ => [] := rfl
@[simp] theorem mdE70 : ctx.md 70 = md70 := rfl
@[simp] theorem fpE70 : ctx.fp 70 = fp70 := rfl
@[simp] theorem flE70 : ctx.fl 70 = fun _ => [] := rfl
@[simp] theorem odE70 : ctx.od 70 = od70 := rfl
theorem run70 {args : List AV} {cs : List Cont} (h : callOk 17 fp70 args cs = true) : callT ctx 70 args cs = denK ctx 70 (codeOf Tryd.f70) (entry 17 gl0 args cs fp70.sites) (finK Tryd.prog fp70 cs.length [.tmp 2]) :=
  call_run rfl rfl Tryd.func70 rfl (by kernel_rfl) Tryd.ntmps70 (by rw [Tryd.results70]) rfl rfl h
theorem ov70 {cl : CallFn} (hcl : ∀ g a c r, cl g a c = some r → callT ctx g a c = some r) {args : List AV} {cs : List Cont} (h : callOk 17 fp70 args cs = true) : Le (denK (ctx.over cl) 70 (codeOf Tryd.f70) (entry 17 gl0 args cs fp70.sites) (finK Tryd.prog fp70 cs.length [.tmp 2])) (callT ctx 70 args cs) :=
  fun r hr => by rw [run70 h]; exact denK_over hcl hr
@[simp] theorem keepE71 : ctx.keep 71 = keep71 := rfl
@[simp] theorem ghE71 : ctx.gh 71 = fun _ => [] := rfl
@[simp] theorem mdE71 : ctx.md 71 = md71 := rfl
@[simp] theorem fpE71 : ctx.fp 71 = fp71 := rfl
@[simp] theorem flE71 : ctx.fl 71 = fun _ => [] := rfl
@[simp] theorem odE71 : ctx.od 71 = od71 := rfl
theorem run71 {args : List AV} {cs : List Cont} (h : callOk 20 fp71 args cs = true) : callT ctx 71 args cs = denK ctx 71 (codeOf Tryd.f71) (entry 20 gl0 args cs fp71.sites) (finK Tryd.prog fp71 cs.length [.tmp 4]) :=
  call_run rfl rfl Tryd.func71 rfl (by kernel_rfl) Tryd.ntmps71 (by rw [Tryd.results71]) rfl rfl h
theorem ov71 {cl : CallFn} (hcl : ∀ g a c r, cl g a c = some r → callT ctx g a c = some r) {args : List AV} {cs : List Cont} (h : callOk 20 fp71 args cs = true) : Le (denK (ctx.over cl) 71 (codeOf Tryd.f71) (entry 20 gl0 args cs fp71.sites) (finK Tryd.prog fp71 cs.length [.tmp 4])) (callT ctx 71 args cs) :=
  fun r hr => by rw [run71 h]; exact denK_over hcl hr
@[simp] theorem keepE72 : ctx.keep 72 = keep72 := rfl
@[simp] theorem ghE72 : ctx.gh 72 = fun _ => [] := rfl
@[simp] theorem mdE72 : ctx.md 72 = md72 := rfl
@[simp] theorem fpE72 : ctx.fp 72 = fp72 := rfl
@[simp] theorem flE72 : ctx.fl 72 = fun _ => [] := rfl
@[simp] theorem odE72 : ctx.od 72 = od72 := rfl
theorem run72 {args : List AV} {cs : List Cont} (h : callOk 13 fp72 args cs = true) : callT ctx 72 args cs = denK ctx 72 (codeOf Tryd.f72) (entry 13 gl0 args cs fp72.sites) (finK Tryd.prog fp72 cs.length [.tmp 2]) :=
  call_run rfl rfl Tryd.func72 rfl (by kernel_rfl) Tryd.ntmps72 (by rw [Tryd.results72]) rfl rfl h
theorem ov72 {cl : CallFn} (hcl : ∀ g a c r, cl g a c = some r → callT ctx g a c = some r) {args : List AV} {cs : List Cont} (h : callOk 13 fp72 args cs = true) : Le (denK (ctx.over cl) 72 (codeOf Tryd.f72) (entry 13 gl0 args cs fp72.sites) (finK Tryd.prog fp72 cs.length [.tmp 2])) (callT ctx 72 args cs) :=
  fun r hr => by rw [run72 h]; exact denK_over hcl hr
@[simp] theorem keepE73 : ctx.keep 73 = keep73 := rfl
@[simp] theorem ghE73 : ctx.gh 73 = fun _ => [] := rfl
@[simp] theorem mdE73 : ctx.md 73 = md73 := rfl
@[simp] theorem fpE73 : ctx.fp 73 = fp73 := rfl
@[simp] theorem flE73 : ctx.fl 73 = fun _ => [] := rfl
@[simp] theorem odE73 : ctx.od 73 = od73 := rfl
theorem run73 {args : List AV} {cs : List Cont} (h : callOk 6 fp73 args cs = true) : callT ctx 73 args cs = denK ctx 73 (codeOf Tryd.f73) (entry 6 gl0 args cs fp73.sites) (finK Tryd.prog fp73 cs.length [.tmp 2]) :=
  call_run rfl rfl Tryd.func73 rfl (by kernel_rfl) Tryd.ntmps73 (by rw [Tryd.results73]) rfl rfl h
theorem ov73 {cl : CallFn} (hcl : ∀ g a c r, cl g a c = some r → callT ctx g a c = some r) {args : List AV} {cs : List Cont} (h : callOk 6 fp73 args cs = true) : Le (denK (ctx.over cl) 73 (codeOf Tryd.f73) (entry 6 gl0 args cs fp73.sites) (finK Tryd.prog fp73 cs.length [.tmp 2])) (callT ctx 73 args cs) :=
  fun r hr => by rw [run73 h]; exact denK_over hcl hr
@[simp] theorem keepE74 : ctx.keep 74 = keep74 := rfl
@[simp] theorem ghE74 : ctx.gh 74 = fun _ => [] := rfl
@[simp] theorem mdE74 : ctx.md 74 = md74 := rfl
@[simp] theorem fpE74 : ctx.fp 74 = fp74 := rfl
@[simp] theorem flE74 : ctx.fl 74 = fun _ => [] := rfl
@[simp] theorem odE74 : ctx.od 74 = od74 := rfl
theorem run74 {args : List AV} {cs : List Cont} (h : callOk 9 fp74 args cs = true) : callT ctx 74 args cs = denK ctx 74 (codeOf Tryd.f74) (entry 9 gl0 args cs fp74.sites) (finK Tryd.prog fp74 cs.length [.tmp 2]) :=
  call_run rfl rfl Tryd.func74 rfl (by kernel_rfl) Tryd.ntmps74 (by rw [Tryd.results74]) rfl rfl h
theorem ov74 {cl : CallFn} (hcl : ∀ g a c r, cl g a c = some r → callT ctx g a c = some r) {args : List AV} {cs : List Cont} (h : callOk 9 fp74 args cs = true) : Le (denK (ctx.over cl) 74 (codeOf Tryd.f74) (entry 9 gl0 args cs fp74.sites) (finK Tryd.prog fp74 cs.length [.tmp 2])) (callT ctx 74 args cs) :=
  fun r hr => by rw [run74 h]; exact denK_over hcl hr
@[simp] theorem keepE75 : ctx.keep 75 = keep75 := rfl
@[simp] theorem ghE75 : ctx.gh 75 = fun _ => [] := rfl
@[simp] theorem mdE75 : ctx.md 75 = md75 := rfl
@[simp] theorem fpE75 : ctx.fp 75 = fp75 := rfl
@[simp] theorem flE75 : ctx.fl 75 = fun _ => [] := rfl
@[simp] theorem odE75 : ctx.od 75 = od75 := rfl
theorem run75 {args : List AV} {cs : List Cont} (h : callOk 83 fp75 args cs = true) : callT ctx 75 args cs = denK ctx 75 (codeOf Tryd.f75) (entry 83 gl0 args cs fp75.sites) (finK Tryd.prog fp75 cs.length [.tmp 2, .tmp 3, .tmp 4]) :=
  call_run rfl rfl Tryd.func75 rfl (by kernel_rfl) Tryd.ntmps75 (by rw [Tryd.results75]) rfl rfl h
theorem ov75 {cl : CallFn} (hcl : ∀ g a c r, cl g a c = some r → callT ctx g a c = some r) {args : List AV} {cs : List Cont} (h : callOk 83 fp75 args cs = true) : Le (denK (ctx.over cl) 75 (codeOf Tryd.f75) (entry 83 gl0 args cs fp75.sites) (finK Tryd.prog fp75 cs.length [.tmp 2, .tmp 3, .tmp 4])) (callT ctx 75 args cs) :=
  fun r hr => by rw [run75 h]; exact denK_over hcl hr
@[simp] theorem keepE76 : ctx.keep 76 = keep76 := rfl
@[simp] theorem ghE76 : ctx.gh 76 = fun _ => [] := rfl
@[simp] theorem mdE76 : ctx.md 76 = md76 := rfl
@[simp] theorem fpE76 : ctx.fp 76 = fp76 := rfl
@[simp] theorem flE76 : ctx.fl 76 = fun _ => [] := rfl
@[simp] theorem odE76 : ctx.od 76 = od76 := rfl
theorem run76 {args : List AV} {cs : List Cont} (h : callOk 19 fp76 args cs = true) : callT ctx 76 args cs = denK ctx 76 (codeOf Tryd.f76) (entry 19 gl0 args cs fp76.sites) (finK Tryd.prog fp76 cs.length [.tmp 2]) :=
  call_run rfl rfl Tryd.func76 rfl (by kernel_rfl) Tryd.ntmps76 (by rw [Tryd.results76]) rfl rfl h
theorem ov76 {cl : CallFn} (hcl : ∀ g a c r, cl g a c = some r → callT ctx g a c = some r) {args : List AV} {cs : List Cont} (h : callOk 19 fp76 args cs = true) : Le (denK (ctx.over cl) 76 (codeOf Tryd.f76) (entry 19 gl0 args cs fp76.sites) (finK Tryd.prog fp76 cs.length [.tmp 2])) (callT ctx 76 args cs) :=
  fun r hr => by rw [run76 h]; exact denK_over hcl hr
@[simp] theorem keepE77 : ctx.keep 77 = keep77 := rfl
@[simp] theorem ghE77 : ctx.gh 77 = fun _ => [] := rfl
@[simp] theorem mdE77 : ctx.md 77 = md77 := rfl
@[simp] theorem fpE77 : ctx.fp 77 = fp77 := rfl
@[simp] theorem flE77 : ctx.fl 77 = fun _ => [] := rfl
@[simp] theorem odE77 : ctx.od 77 = od77 := rfl
theorem run77 {args : List AV} {cs : List Cont} (h : callOk 11 fp77 args cs = true) : callT ctx 77 args cs = denK ctx 77 (codeOf Tryd.f77) (entry 11 gl0 args cs fp77.sites) (finK Tryd.prog fp77 cs.length [.tmp 4]) :=
  call_run rfl rfl Tryd.func77 rfl (by kernel_rfl) Tryd.ntmps77 (by rw [Tryd.results77]) rfl rfl h
theorem ov77 {cl : CallFn} (hcl : ∀ g a c r, cl g a c = some r → callT ctx g a c = some r) {args : List AV} {cs : List Cont} (h : callOk 11 fp77 args cs = true) : Le (denK (ctx.over cl) 77 (codeOf Tryd.f77) (entry 11 gl0 args cs fp77.sites) (finK Tryd.prog fp77 cs.length [.tmp 4])) (callT ctx 77 args cs) :=
  fun r hr => by rw [run77 h]; exact denK_over hcl hr
@[simp] theorem keepE78 : ctx.keep 78 = keep78 := rfl
@[simp] theorem ghE78 : ctx.gh 78 = fun _ => [] := rfl
@[simp] theorem mdE78 : ctx.md 78 = md78 := rfl
@[simp] theorem fpE78 : ctx.fp 78 = fp78 := rfl
@[simp] theorem flE78 : ctx.fl 78 = fun _ => [] := rfl
@[simp] theorem odE78 : ctx.od 78 = od78 := rfl
theorem run78 {args : List AV} {cs : List Cont} (h : callOk 12 fp78 args cs = true) : callT ctx 78 args cs = denK ctx 78 (codeOf Tryd.f78) (entry 12 gl0 args cs fp78.sites) (finK Tryd.prog fp78 cs.length []) :=
  call_run rfl rfl Tryd.func78 rfl (by kernel_rfl) Tryd.ntmps78 (by rw [Tryd.results78]) rfl rfl h
theorem ov78 {cl : CallFn} (hcl : ∀ g a c r, cl g a c = some r → callT ctx g a c = some r) {args : List AV} {cs : List Cont} (h : callOk 12 fp78 args cs = true) : Le (denK (ctx.over cl) 78 (codeOf Tryd.f78) (entry 12 gl0 args cs fp78.sites) (finK Tryd.prog fp78 cs.length [])) (callT ctx 78 args cs) :=
  fun r hr => by rw [run78 h]; exact denK_over hcl hr
@[simp] theorem keepE79 : ctx.keep 79 = keep79 := rfl
@[simp] theorem ghE79 : ctx.gh 79 = fun _ => [] := rfl
@[simp] theorem mdE79 : ctx.md 79 = md79 := rfl
@[simp] theorem fpE79 : ctx.fp 79 = fp79 := rfl
@[simp] theorem flE79 : ctx.fl 79 = fun _ => [] := rfl
@[simp] theorem odE79 : ctx.od 79 = od79 := rfl
theorem run79 {args : List AV} {cs : List Cont} (h : callOk 13 fp79 args cs = true) : callT ctx 79 args cs = denK ctx 79 (codeOf Tryd.f79) (entry 13 gl0 args cs fp79.sites) (finK Tryd.prog fp79 cs.length [.cell 2 29]) :=
  call_run rfl rfl Tryd.func79 rfl (by kernel_rfl) Tryd.ntmps79 (by rw [Tryd.results79]) rfl rfl h
theorem ov79 {cl : CallFn} (hcl : ∀ g a c r, cl g a c = some r → callT ctx g a c = some r) {args : List AV} {cs : List Cont} (h : callOk 13 fp79 args cs = true) : Le (denK (ctx.over cl) 79 (codeOf Tryd.f79) (entry 13 gl0 args cs fp79.sites) (finK Tryd.prog fp79 cs.length [.cell 2 29])) (callT ctx 79 args cs) :=
  fun r hr => by rw [run79 h]; exact denK_over hcl hr
@[simp] theorem keepE80 : ctx.keep 80 = keep80 := rfl
@[simp] theorem ghE80 : ctx.gh 80 = fun _ => [] := rfl
@[simp] theorem mdE80 : ctx.md 80 = md80 := rfl
@[simp] theorem fpE80 : ctx.fp 80 = fp80 := rfl
@[simp] theorem flE80 : ctx.fl 80 = fun _ => [] := rfl
@[simp] theorem odE80 : ctx.od 80 = od80 := rfl
theorem run80 {args : List AV} {cs : List Cont} (h : callOk 17 fp80 args cs = true) : callT ctx 80 args cs = denK ctx 80 (codeOf Tryd.f80) (entry 17 gl0 args cs fp80.sites) (finK Tryd.prog fp80 cs.length [.cell 2 29]) :=
  call_run rfl rfl Tryd.func80 rfl (by kernel_rfl) Tryd.ntmps80 (by rw [Tryd.results80]) rfl rfl h
theorem ov80 {cl : CallFn} (hcl : ∀ g a c r, cl g a c = some r → callT ctx g a c = some r) {args : List AV} {cs : List Cont} (h : callOk 17 fp80 args cs = true) : Le (denK (ctx.over cl) 80 (codeOf Tryd.f80) (entry 17 gl0 args cs fp80.sites) (finK Tryd.prog fp80 cs.length [.cell 2 29])) (callT ctx 80 args cs) :=
  fun r hr => by rw [run80 h]; exact denK_over hcl hr
@[simp] theorem keepE81 : ctx.keep 81 = keep81 := rfl
@[simp] theorem ghE81 : ctx.gh 81 = fun _ => [] := rfl
@[simp] theorem mdE81 : ctx.md 81 = md81 := rfl
@[simp] theorem fpE81 : ctx.fp 81 = fp81 := rfl
@[simp] theorem flE81 : ctx.fl 81 = fun _ => [] := rfl
@[simp] theorem odE81 : ctx.od 81 = od81 := rfl
theorem run81 {args : List AV} {cs : List Cont} (h : callOk 94 fp81 args cs = true) : callT ctx 81 args cs = denK ctx 81 (codeOf Tryd.f81) (entry 94 gl0 args cs fp81.sites) (finK Tryd.prog fp81 cs.length []) :=
  call_run rfl rfl Tryd.func81 rfl (by kernel_rfl) Tryd.ntmps81 (by rw [Tryd.results81]) rfl rfl h
theorem ov81 {cl : CallFn} (hcl : ∀ g a c r, cl g a c = some r → callT ctx g a c = some r) {args : List AV} {cs : List Cont} (h : callOk 94 fp81 args cs = true) : Le (denK (ctx.over cl) 81 (codeOf Tryd.f81) (entry 94 gl0 args cs fp81.sites) (finK Tryd.prog fp81 cs.length [])) (callT ctx 81 args cs) :=
  fun r hr => by rw [run81 h]; exact denK_over hcl hr
@[simp] theorem keepE82 : ctx.keep 82 = keep82 := rfl
@[simp] theorem ghE82 : ctx.gh 82 = fun _ => [] := rfl
@[simp] theorem mdE82 : ctx.md 82 = md82 := rfl
@[simp] theorem fpE82 : ctx.fp 82 = fp82 := rfl
@[simp] theorem flE82 : ctx.fl 82 = fun _ => [] := rfl
@[simp] theorem odE82 : ctx.od 82 = od82 := rfl
theorem run82 {args : List AV} {cs : List Cont} (h : callOk 9 fp82 args cs = true) : callT ctx 82 args cs = denK ctx 82 (codeOf Tryd.f82) (entry 9 gl0 args cs fp82.sites) (finK Tryd.prog fp82 cs.length [.tmp 4]) :=
  call_run rfl rfl Tryd.func82 rfl (by kernel_rfl) Tryd.ntmps82 (by rw [Tryd.results82]) rfl rfl h
theorem ov82 {cl : CallFn} (hcl : ∀ g a c r, cl g a c = some r → callT ctx g a c = some r) {args : List AV} {cs : List Cont} (h : callOk 9 fp82 args cs = true) : Le (denK (ctx.over cl) 82 (codeOf Tryd.f82) (entry 9 gl0 args cs fp82.sites) (finK Tryd.prog fp82 cs.length [.tmp 4])) (callT ctx 82 args cs) :=
  fun r hr => by rw [run82 h]; exact denK_over hcl hr
@[simp] theorem keepE83 : ctx.keep 83 = keep83 := rfl
@[simp] theorem ghE83 : ctx.gh 83 = fun _ => [] := rfl
@[simp] theorem mdE83 : ctx.md 83 = md83 := rfl
@[simp] theorem fpE83 : ctx.fp 83 = fp83 := rfl
@[simp] theorem flE83 : ctx.fl 83 = fun _ => [] := rfl
@[simp] theorem odE83 : ctx.od 83 = od83 := rfl
theorem run83 {args : List AV} {cs : List Cont} (h : callOk 22 fp83 args cs = true) : callT ctx 83 args cs = denK ctx 83 (codeOf Tryd.f83) (entry 22 gl0 args cs fp83.sites) (finK Tryd.prog fp83 cs.length [.tmp 4]) :=
  call_run rfl rfl Tryd.func83 rfl (by kernel_rfl) Tryd.ntmps83 (by rw [Tryd.results83]) rfl rfl h
theorem ov83 {cl : CallFn} (hcl : ∀ g a c r, cl g a c = some r → callT ctx g a c = some r) {args : List AV} {cs : List Cont} (h : callOk 22 fp83 args cs = true) : Le (denK (ctx.over cl) 83 (codeOf Tryd.f83) (entry 22 gl0 args cs fp83.sites) (finK Tryd.prog fp83 cs.length [.tmp 4])) (callT ctx 83 args cs) :=
  fun r hr => by rw [run83 h]; exact denK_over hcl hr
@[simp] theorem keepE84 : ctx.keep 84 = keep84 := rfl
@[simp] theorem ghE84 : ctx.gh 84 = fun _ => [] := rfl
@[simp] theorem mdE84 : ctx.md 84 = md84 := rfl
@[simp] theorem fpE84 : ctx.fp 84 = fp84 := rfl
@[simp] theorem flE84 : ctx.fl 84 = fun _ => [] := rfl
@[simp] theorem odE84 : ctx.od 84 = od84 := rfl
theorem run84 {args : List AV} {cs : List Cont} (h : callOk 19 fp84 args cs = true) : callT ctx 84 args cs = denK ctx 84 (codeOf Tryd.f84) (entry 19 gl0 args cs fp84.sites) (finK Tryd.prog fp84 cs.length [.cell 2 40]) :=
  call_run rfl rfl Tryd.func84 rfl (by kernel_rfl) Tryd.ntmps84 (by rw [Tryd.results84]) rfl rfl h
theorem ov84 {cl : CallFn} (hcl : ∀ g a c r, cl g a c = some r → callT ctx g a c = some r) {args : List AV} {cs : List Cont} (h : callOk 19 fp84 args cs = true) : Le (denK (ctx.over cl) 84 (codeOf Tryd.f84) (entry 19 gl0 args cs fp84.sites) (finK Tryd.prog fp84 cs.length [.cell 2 40])) (callT ctx 84 args cs) :=
  fun r hr => by rw [run84 h]; exact denK_over hcl hr
@[simp] theorem keepE91 : ctx.keep 91 = keep91 := rfl
@[simp] theorem ghE91 : ctx.gh 91 = fun _ => [] := rfl
@[simp] theorem mdE91 : ctx.md 91 = md91 := rfl
@[simp] theorem fpE91 : ctx.fp 91 = fp91 := rfl
@[simp] theorem flE91 : ctx.fl 91 = fun _ => [] := rfl
@[simp] theorem odE91 : ctx.od 91 = od91 := rfl
theorem run91 {args : List AV} {cs : List Cont} (h : callOk 38 fp91 args cs = true) : callT ctx 91 args cs = denK ctx 91 (codeOf Tryd.f91) (entry 38 gl0 args cs fp91.sites) (finK Tryd.prog fp91 cs.length [.tmp 4]) :=
  call_run rfl rfl Tryd.func91 rfl (by kernel_rfl) Tryd.ntmps91 (by rw [Tryd.results91]) rfl rfl h
theorem ov91 {cl : CallFn} (hcl : ∀ g a c r, cl g a c = some r → callT ctx g a c = some r) {args : List AV} {cs : List Cont} (h : callOk 38 fp91 args cs = true) : Le (denK (ctx.over cl) 91 (codeOf Tryd.f91) (entry 38 gl0 args cs fp91.sites) (finK Tryd.prog fp91 cs.length [.tmp 4])) (callT ctx 91 args cs) :=
  fun r hr => by rw [run91 h]; exact denK_over hcl hr
@[simp] theorem keepE92 : ctx.keep 92 = keep92 := rfl
@[simp] theorem ghE92 : ctx.gh 92 = fun _ => [] := rfl
@[simp] theorem mdE92 : ctx.md 92 = md92 := rfl
@[simp] theorem fpE92 : ctx.fp 92 = fp92 := rfl
@[simp] theorem flE92 : ctx.fl 92 = fun _ => [] := rfl
@[simp] theorem odE92 : ctx.od 92 = od92 := rfl
theorem run92 {args : List AV} {cs : List Cont} (h : callOk 32 fp92 args cs = true) : callT ctx 92 args cs = denK ctx 92 (codeOf Tryd.f92) (entry 32 gl0 args cs fp92.sites) (finK Tryd.prog fp92 cs.length [.tmp 6]) :=
  call_run rfl rfl Tryd.func92 rfl (by kernel_rfl) Tryd.ntmps92 (by rw [Tryd.results92]) rfl rfl h
theorem ov92 {cl : CallFn} (hcl : ∀ g a c r, cl g a c = some r → callT ctx g a c = some r) {args : List AV} {cs : List Cont} (h : callOk 32 fp92 args cs = true) : Le (denK (ctx.over cl) 92 (codeOf Tryd.f92) (entry 32 gl0 args cs fp92.sites) (finK Tryd.prog fp92 cs.length [.tmp 6])) (callT ctx 92 args cs) :=
  fun r hr => by rw [run92 h]; exact denK_over hcl hr
@[simp] theorem keepE93 : ctx.keep 93 = keep93 := rfl
@[simp] theorem ghE93 : ctx.gh 93 = fun _ => [] := rfl
@[simp] theorem mdE93 : ctx.md 93 = md93 := rfl
@[simp] theorem fpE93 : ctx.fp 93 = fp93 := rfl
@[simp] theorem flE93 : ctx.fl 93 = fun _ => [] := rfl
@[simp] theorem odE93 : ctx.od 93 = od93 := rfl
theorem run93 {args : List AV} {cs : List Cont} (h : callOk 32 fp93 args cs = true) : callT ctx 93 args cs = denK ctx 93 (codeOf Tryd.f93) (entry 32 gl0 args cs fp93.sites) (finK Tryd.prog fp93 cs.length [.tmp 6]) :=
  call_run rfl rfl Tryd.func93 rfl (by kernel_rfl) Tryd.ntmps93 (by rw [Tryd.results93]) rfl rfl h
theorem ov93 {cl : CallFn} (hcl : ∀ g a c r, cl g a c = some r → callT ctx g a c = some r) {args : List AV} {cs : List Cont} (h : callOk 32 fp93 args cs = true) : Le (denK (ctx.over cl) 93 (codeOf Tryd.f93) (entry 32 gl0 args cs fp93.sites) (finK Tryd.prog fp93 cs.length [.tmp 6])) (callT ctx 93 args cs) :=
  fun r hr => by rw [run93 h]; exact denK_over hcl hr
@[simp] theorem keepE94 : ctx.keep 94 = keep94 := rfl
@[simp] theorem ghE94 : ctx.gh 94 = fun _ => [] := rfl
@[simp] theorem mdE94 : ctx.md 94 = md94 := rfl
@[simp] theorem fpE94 : ctx.fp 94 = fp94 := rfl
@[simp] theorem flE94 : ctx.fl 94 = fun _ => [] := rfl
@[simp] theorem odE94 : ctx.od 94 = od94 := rfl
theorem run94 {args : List AV} {cs : List Cont} (h : callOk 8 fp94 args cs = true) : callT ctx 94 args cs = denK ctx 94 (codeOf Tryd.f94) (entry 8 gl0 args cs fp94.sites) (finK Tryd.prog fp94 cs.length [.tmp 4]) :=
  call_run rfl rfl Tryd.func94 rfl (by kernel_rfl) Tryd.ntmps94 (by rw [Tryd.results94]) rfl rfl h
theorem ov94 {cl : CallFn} (hcl : ∀ g a c r, cl g a c = some r → callT ctx g a c = some r) {args : List AV} {cs : List Cont} (h : callOk 8 fp94 args cs = true) : Le (denK (ctx.over cl) 94 (codeOf Tryd.f94) (entry 8 gl0 args cs fp94.sites) (finK Tryd.prog fp94 cs.length [.tmp 4])) (callT ctx 94 args cs) :=
  fun r hr => by rw [run94 h]; exact denK_over hcl hr
@[simp] theorem keepE95 : ctx.keep 95 = keep95 := rfl
@[simp] theorem ghE95 : ctx.gh 95 = fun _ => [] := rfl
@[simp] theorem mdE95 : ctx.md 95 = md95 := rfl
@[simp] theorem fpE95 : ctx.fp 95 = fp95 := rfl
@[simp] theorem flE95 : ctx.fl 95 = fun _ => [] := rfl
@[simp] theorem odE95 : ctx.od 95 = od95 := rfl
theorem run95 {args : List AV} {cs : List Cont} (h : callOk 26 fp95 args cs = true) : callT ctx 95 args cs = denK ctx 95 (codeOf Tryd.f95) (entry 26 gl0 args cs fp95.sites) (finK Tryd.prog fp95 cs.length [.tmp 4]) :=
  call_run rfl rfl Tryd.func95 rfl (by kernel_rfl) Tryd.ntmps95 (by rw [Tryd.results95]) rfl rfl h
theorem ov95 {cl : CallFn} (hcl : ∀ g a c r, cl g a c = some r → callT ctx g a c = some r) {args : List AV} {cs : List Cont} (h : callOk 26 fp95 args cs = true) : Le (denK (ctx.over cl) 95 (codeOf Tryd.f95) (entry 26 gl0 args cs fp95.sites) (finK Tryd.prog fp95 cs.length [.tmp 4])) (callT ctx 95 args cs) :=
  fun r hr => by rw [run95 h]; exact denK_over hcl hr
@[simp] theorem keepE96 : ctx.keep 96 = keep96 := rfl
@[simp] theorem ghE96 : ctx.gh 96 = fun _ => [] := rfl
@[simp] theorem mdE96 : ctx.md 96 = md96 := rfl
@[simp] theorem fpE96 : ctx.fp 96 = fp96 := rfl
@[simp] theorem flE96 : ctx.fl 96 = fun _ => [] := rfl
@[simp] theorem odE96 : ctx.od 96 = od96 := rfl
theorem run96 {args : List AV} {cs : List Cont} (h : callOk 32 fp96 args cs = true) : callT ctx 96 args cs = denK ctx 96 (codeOf Tryd.f96) (entry 32 gl0 args cs fp96.sites) (finK Tryd.prog fp96 cs.length [.tmp 6]) :=
  call_run rfl rfl Tryd.func96 rfl (by kernel_rfl) Tryd.ntmps96 (by rw [Tryd.results96]) rfl rfl h
theorem ov96 {cl : CallFn} (hcl : ∀ g a c r, cl g a c = some r → callT ctx g a c = some r) {args : List AV} {cs : List Cont} (h : callOk 32 fp96 args cs = true) : Le (denK (ctx.over cl) 96 (codeOf Tryd.f96) (entry 32 gl0 args cs fp96.sites) (finK Tryd.prog fp96 cs.length [.tmp 6])) (callT ctx 96 args cs) :=
  fun r hr => by rw [run96 h]; exact denK_over hcl hr
@[simp] theorem keepE106 : ctx.keep 106 = keep106 := rfl
@[simp] theorem ghE106 : ctx.gh 106 = fun _ => [] := rfl
@[simp] theorem mdE106 : ctx.md 106 = md106 := rfl
@[simp] theorem fpE106 : ctx.fp 106 = fp106 := rfl
@[simp] theorem flE106 : ctx.fl 106 = fun _ => [] := rfl
@[simp] theorem odE106 : ctx.od 106 = od106 := rfl
theorem run106 {args : List AV} {cs : List Cont} (h : callOk 18 fp106 args cs = true) : callT ctx 106 args cs = denK ctx 106 (codeOf Tryd.f106) (entry 18 gl0 args cs fp106.sites) (finK Tryd.prog fp106 cs.length [.tmp 4]) :=
  call_run rfl rfl Tryd.func106 rfl (by kernel_rfl) Tryd.ntmps106 (by rw [Tryd.results106]) rfl rfl h
theorem ov106 {cl : CallFn} (hcl : ∀ g a c r, cl g a c = some r → callT ctx g a c = some r) {args : List AV} {cs : List Cont} (h : callOk 18 fp106 args cs = true) : Le (denK (ctx.over cl) 106 (codeOf Tryd.f106) (entry 18 gl0 args cs fp106.sites) (finK Tryd.prog fp106 cs.length [.tmp 4])) (callT ctx 106 args cs) :=
  fun r hr => by rw [run106 h]; exact denK_over hcl hr
@[simp] theorem keepE107 : ctx.keep 107 = keep107 := rfl
@[simp] theorem ghE107 : ctx.gh 107 = fun _ => [] := rfl
@[simp] theorem mdE107 : ctx.md 107 = md107 := rfl
@[simp] theorem fpE107 : ctx.fp 107 = fp107 := rfl
@[simp] theorem flE107 : ctx.fl 107 = fun _ => [] := rfl
@[simp] theorem odE107 : ctx.od 107 = od107 := rfl
@[simp] theorem orc_run107 {args : List AV} {cs : List Cont} : callT ctx 107 args cs = orcAns (liftO ibO) args cs := callT_orc rfl rfl
@[simp] theorem keepE108 : ctx.keep 108 = keep108 := rfl
@[simp] theorem ghE108 : ctx.gh 108 = fun _ => [] := rfl
@[simp] theorem mdE108 : ctx.md 108 = md108 := rfl
@[simp] theorem fpE108 : ctx.fp 108 = fp108 := rfl
@[simp] theorem flE108 : ctx.fl 108 = fun _ => [] := rfl
@[simp] theorem odE108 : ctx.od 108 = od108 := rfl
theorem run108 {args : List AV} {cs : List Cont} (h : callOk 143 fp108 args cs = true) : callT ctx 108 args cs = denK ctx 108 (codeOf Tryd.f108) (entry 143 gl0 args cs fp108.sites) (finK Tryd.prog fp108 cs.length [.tmp 4]) :=
  call_run rfl rfl Tryd.func108 rfl (by kernel_rfl) Tryd.ntmps108 (by rw [Tryd.results108]) rfl rfl h
theorem ov108 {cl : CallFn} (hcl : ∀ g a c r, cl g a c = some r → callT ctx g a c = some r) {args : List AV} {cs : List Cont} (h : callOk 143 fp108 args cs = true) : Le (denK (ctx.over cl) 108 (codeOf Tryd.f108) (entry 143 gl0 args cs fp108.sites) (finK Tryd.prog fp108 cs.length [.tmp 4])) (callT ctx 108 args cs) :=
  fun r hr => by rw [run108 h]; exact denK_over hcl hr
@[simp] theorem keepE109 : ctx.keep 109 = keep109 := rfl
@[simp] theorem ghE109 : ctx.gh 109 = fun _ => [] := rfl
@[simp] theorem mdE109 : ctx.md 109 = md109 := rfl
@[simp] theorem fpE109 : ctx.fp 109 = fp109 := rfl
@[simp] theorem flE109 : ctx.fl 109 = fun _ => [] := rfl
@[simp] theorem odE109 : ctx.od 109 = od109 := rfl
theorem run109 {args : List AV} {cs : List Cont} (h : callOk 9 fp109 args cs = true) : callT ctx 109 args cs = denK ctx 109 (codeOf Tryd.f109) (entry 9 gl0 args cs fp109.sites) (finK Tryd.prog fp109 cs.length [.tmp 4]) :=
  call_run rfl rfl Tryd.func109 rfl (by kernel_rfl) Tryd.ntmps109 (by rw [Tryd.results109]) rfl rfl h
theorem ov109 {cl : CallFn} (hcl : ∀ g a c r, cl g a c = some r → callT ctx g a c = some r) {args : List AV} {cs : List Cont} (h : callOk 9 fp109 args cs = true) : Le (denK (ctx.over cl) 109 (codeOf Tryd.f109) (entry 9 gl0 args cs fp109.sites) (finK Tryd.prog fp109 cs.length [.tmp 4])) (callT ctx 109 args cs) :=
  fun r hr => by rw [run109 h]; exact denK_over hcl hr
@[simp] theorem keepE110 : ctx.keep 110 = keep110 := rfl
@[simp] theorem ghE110 : ctx.gh 110 = fun _ => [] := rfl
@[simp] theorem mdE110 : ctx.md 110 = md110 := rfl
@[simp] theorem fpE110 : ctx.fp 110 = fp110 := rfl
@[simp] theorem flE110 : ctx.fl 110 = fun _ => [] := rfl
@[simp] theorem odE110 : ctx.od 110 = od110 := rfl
theorem run110 {args : List AV} {cs : List Cont} (h : callOk 106 fp110 args cs = true) : callT ctx 110 args cs = denK ctx 110 (codeOf Tryd.f110) (entry 106 gl0 args cs fp110.sites) (finK Tryd.prog fp110 cs.length [.tmp 2]) :=
  call_run rfl rfl Tryd.func110 rfl (by kernel_rfl) Tryd.ntmps110 (by rw [Tryd.results110]) rfl rfl h
theorem ov110 {cl : CallFn} (hcl : ∀ g a c r, cl g a c = some r → callT ctx g a c = some r) {args : List AV} {cs : List Cont} (h : callOk 106 fp110 args cs = true) : Le (denK (ctx.over cl) 110 (codeOf Tryd.f110) (entry 106 gl0 args cs fp110.sites) (finK Tryd.prog fp110 cs.length [.tmp 2])) (callT ctx 110 args cs) :=
  fun r hr => by rw [run110 h]; exact denK_over hcl hr
@[simp] theorem keepE111 : ctx.keep 111 = keep111 := rfl
@[simp] theorem ghE111 : ctx.gh 111 = fun _ => [] := rfl
@[simp] theorem mdE111 : ctx.md 111 = md111 := rfl
@[simp] theorem fpE111 : ctx.fp 111 = fp111 := rfl
@[simp] theorem flE111 : ctx.fl 111 = fun _ => [] := rfl
@[simp] theorem odE111 : ctx.od 111 = od111 := rfl
theorem run111 {args : List AV} {cs : List Cont} (h : callOk 8 fp111 args cs = true) : callT ctx 111 args cs = denK ctx 111 (codeOf Tryd.f111) (entry 8 gl0 args cs fp111.sites) (finK Tryd.prog fp111 cs.length [.tmp 3]) :=
  call_run rfl rfl Tryd.func111 rfl (by kernel_rfl) Tryd.ntmps111 (by rw [Tryd.results111]) rfl rfl h
theorem ov111 {cl : CallFn} (hcl : ∀ g a c r, cl g a c = some r → callT ctx g a c = some r) {args : List AV} {cs : List Cont} (h : callOk 8 fp111 args cs = true) : Le (denK (ctx.over cl) 111 (codeOf Tryd.f111) (entry 8 gl0 args cs fp111.sites) (finK Tryd.prog fp111 cs.length [.tmp 3])) (callT ctx 111 args cs) :=
  fun r hr => by rw [run111 h]; exact denK_over hcl hr
@[simp] theorem keepE112 : ctx.keep 112 = keep112 := rfl
@[simp] theorem ghE112 : ctx.gh 112 = fun _ => [] := rfl
@[simp] theorem mdE112 : ctx.md 112 = md112 := rfl
@[simp] theorem fpE112 : ctx.fp 112 = fp112 := rfl
@[simp] theorem flE112 : ctx.fl 112 = fun _ => [] := rfl
@[simp] theorem odE112 : ctx.od 112 = od112 := rfl
theorem run112 {args : List AV} {cs : List Cont} (h : callOk 20 fp112 args cs = true) : callT ctx 112 args cs = denK ctx 112 (codeOf Tryd.f112) (entry 20 gl0 args cs fp112.sites) (finK Tryd.prog fp112 cs.length [.tmp 2]) :=
  call_run rfl rfl Tryd.func112 rfl (by kernel_rfl) Tryd.ntmps112 (by rw [Tryd.results112]) rfl rfl h
theorem ov112 {cl : CallFn} (hcl : ∀ g a c r, cl g a c = some r → callT ctx g a c = some r) {args : List AV} {cs : List Cont} (h : callOk 20 fp112 args cs = true) : Le (denK (ctx.over cl) 112 (codeOf Tryd.f112) (entry 20 gl0 args cs fp112.sites) (finK Tryd.prog fp112 cs.length [.tmp 2])) (callT ctx 112 args cs) :=
  fun r hr => by rw [run112 h]; exact denK_over hcl hr
@[simp] theorem keepE113 : ctx.keep 113 = keep113 := rfl
@[simp] theorem ghE113 : ctx.gh 113 = fun _ => [] := rfl
@[simp] theorem mdE113 : ctx.md 113 = md113 := rfl
@[simp] theorem fpE113 : ctx.fp 113 = fp113 := rfl
@[simp] theorem flE113 : ctx.fl 113 = fun _ => [] := rfl
@[simp] theorem odE113 : ctx.od 113 = od113 := rfl
theorem run113 {args : List AV} {cs : List Cont} (h : callOk 36 fp113 args cs = true) : callT ctx 113 args cs = denK ctx 113 (codeOf Tryd.f113) (entry 36 gl0 args cs fp113.sites) (finK Tryd.prog fp113 cs.length [.cell 2 180]) :=
  call_run rfl rfl Tryd.func113 rfl (by kernel_rfl) Tryd.ntmps113 (by rw [Tryd.results113]) rfl rfl h
theorem ov113 {cl : CallFn} (hcl : ∀ g a c r, cl g a c = some r → callT ctx g a c = some r) {args : List AV} {cs : List Cont} (h : callOk 36 fp113 args cs = true) : Le (denK (ctx.over cl) 113 (codeOf Tryd.f113) (entry 36 gl0 args cs fp113.sites) (finK Tryd.prog fp113 cs.length [.cell 2 180])) (callT ctx 113 args cs) :=
  fun r hr => by rw [run113 h]; exact denK_over hcl hr
@[simp] theorem keepE114 : ctx.keep 114 = keep114 := rfl
@[simp] theorem ghE114 : ctx.gh 114 = fun _ => [] := rfl
@[simp] theorem mdE114 : ctx.md 114 = md114 := rfl
@[simp] theorem fpE114 : ctx.fp 114 = fp114 := rfl
@[simp] theorem flE114 : ctx.fl 114 = fun _ => [] := rfl
@[simp] theorem odE114 : ctx.od 114 = od114 := rfl
theorem run114 {args : List AV} {cs : List Cont} (h : callOk 12 fp114 args cs = true) : callT ctx 114 args cs = denK ctx 114 (codeOf Tryd.f114) (entry 12 gl0 args cs fp114.sites) (finK Tryd.prog fp114 cs.length [.tmp 2, .tmp 3]) :=
  call_run rfl rfl Tryd.func114 rfl (by kernel_rfl) Tryd.ntmps114 (by rw [Tryd.results114]) rfl rfl h
theorem ov114 {cl : CallFn} (hcl : ∀ g a c r, cl g a c = some r → callT ctx g a c = some r) {args : List AV} {cs : List Cont} (h : callOk 12 fp114 args cs = true) : Le (denK (ctx.over cl) 114 (codeOf Tryd.f114) (entry 12 gl0 args cs fp114.sites) (finK Tryd.prog fp114 cs.length [.tmp 2, .tmp 3])) (callT ctx 114 args cs) :=
  fun r hr => by rw [run114 h]; exact denK_over hcl hr
@[simp] theorem keepE115 : ctx.keep 115 = keep115 := rfl
@[simp] theorem ghE115 : ctx.gh 115 = fun _ => [] := rfl
@[simp] theorem mdE115 : ctx.md 115 = md115 := rfl
@[simp] theorem fpE115 : ctx.fp 115 = fp115 := rfl
@[simp] theorem flE115 : ctx.fl 115 = fun _ => [] := rfl
@[simp] theorem odE115 : ctx.od 115 = od115 := rfl
theorem run115 {args : List AV} {cs : List Cont} (h : callOk 19 fp115 args cs = true) : callT ctx 115 args cs = denK ctx 115 (codeOf Tryd.f115) (entry 19 gl0 args cs fp115.sites) (finK Tryd.prog fp115 cs.length [.tmp 4]) :=
  call_run rfl rfl Tryd.func115 rfl (by kernel_rfl) Tryd.ntmps115 (by rw [Tryd.results115]) rfl rfl h
theorem ov115 {cl : CallFn} (hcl : ∀ g a c r, cl g a c = some r → callT ctx g a c = some r) {args : List AV} {cs : List Cont} (h : callOk 19 fp115 args cs = true) : Le (denK (ctx.over cl) 115 (codeOf Tryd.f115) (entry 19 gl0 args cs fp115.sites) (finK Tryd.prog fp115 cs.length [.tmp 4])) (callT ctx 115 args cs) :=
  fun r hr => by rw [run115 h]; exact denK_over hcl hr
@[simp] theorem keepE116 : ctx.keep 116 = keep116 := rfl
@[simp] theorem ghE116 : ctx.gh 116 = fun _ => [] := rfl
@[simp] theorem mdE116 : ctx.md 116 = md116 := rfl
@[simp] theorem fpE116 : ctx.fp 116 = fp116 := rfl
@[simp] theorem flE116 : ctx.fl 116 = fun _ => [] := rfl
@[simp] theorem odE116 : ctx.od 116 = od116 := rfl
theorem run116 {args : List AV} {cs : List Cont} (h : callOk 17 fp116 args cs = true) : callT ctx 116 args cs = denK ctx 116 (codeOf Tryd.f116) (entry 17 gl0 args cs fp116.sites) (finK Tryd.prog fp116 cs.length []) :=
  call_run rfl rfl Tryd.func116 rfl (by kernel_rfl) Tryd.ntmps116 (by rw [Tryd.results116]) rfl rfl h
theorem ov116 {cl : CallFn} (hcl : ∀ g a c r, cl g a c = some r → callT ctx g a c = some r) {args : List AV} {cs : List Cont} (h : callOk 17 fp116 args cs = true) : Le (denK (ctx.over cl) 116 (codeOf Tryd.f116) (entry 17 gl0 args cs fp116.sites) (finK Tryd.prog fp116 cs.length [])) (callT ctx 116 args cs) :=
  fun r hr => by rw [run116 h]; exact denK_over hcl hr
@[simp] theorem keepE117 : ctx.keep 117 = keep117 := rfl
@[simp] theorem ghE117 : ctx.gh 117 = fun _ => [] := rfl
@[simp] theorem mdE117 : ctx.md 117 = md117 := rfl
@[simp] theorem fpE117 : ctx.fp 117 = fp117 := rfl
@[simp] theorem flE117 : ctx.fl 117 = fun _ => [] := rfl
@[simp] theorem odE117 : ctx.od 117 = od117 := rfl
theorem run117 {args : List AV} {cs : List Cont} (h : callOk 91 fp117 args cs = true) : callT ctx 117 args cs = denK ctx 117 (codeOf Tryd.f117) (entry 91 gl0 args cs fp117.sites) (finK Tryd.prog fp117 cs.length [.cell 2 40]) :=
  call_run rfl rfl Tryd.func117 rfl (by kernel_rfl) Tryd.ntmps117 (by rw [Tryd.results117]) rfl rfl h
theorem ov117 {cl : CallFn} (hcl : ∀ g a c r, cl g a c = some r → callT ctx g a c = some r) {args : List AV} {cs : List Cont} (h : callOk 91 fp117 args cs = true) : Le (denK (ctx.over cl) 117 (codeOf Tryd.f117) (entry 91 gl0 args cs fp117.sites) (finK Tryd.prog fp117 cs.length [.cell 2 40])) (callT ctx 117 args cs) :=
  fun r hr => by rw [run117 h]; exact denK_over hcl hr
@[simp] theorem keepE118 : ctx.keep 118 = keep118 := rfl
@[simp] theorem ghE118 : ctx.gh 118 = fun _ => [] := rfl
@[simp] theorem mdE118 : ctx.md 118 = md118 := rfl
@[simp] theorem fpE118 : ctx.fp 118 = fp118 := rfl
@[simp] theorem flE118 : ctx.fl 118 = fun _ => [] := rfl
@[simp] theorem odE118 : ctx.od 118 = od118 := rfl
theorem run118 {args : List AV} {cs : List Cont} (h : callOk 9 fp118 args cs = true) : callT ctx 118 args cs = denK ctx 118 (codeOf Tryd.f118) (entry 9 gl0 args cs fp118.sites) (finK Tryd.prog fp118 cs.length []) :=
  call_run rfl rfl Tryd.func118 rfl (by kernel_rfl) Tryd.ntmps118 (by rw [Tryd.results118]) rfl rfl h
theorem ov118 {cl : CallFn} (hcl : ∀ g a c r, cl g a c = some r → callT ctx g a c = some r) {args : List AV} {cs : List Cont} (h : callOk 9 fp118 args cs = true) : Le (denK (ctx.over cl) 118 (codeOf Tryd.f118) (entry 9 gl0 args cs fp118.sites) (finK Tryd.prog fp118 cs.length [])) (callT ctx 118 args cs) :=
  fun r hr => by rw [run118 h]; exact denK_over hcl hr
@[simp] theorem keepE123 : ctx.keep 123 = keep123 := rfl
@[simp] theorem ghE123 : ctx.gh 123 = fun _ => [] := rfl
@[simp] theorem mdE123 : ctx.md 123 = md123 := rfl
@[simp] theorem fpE123 : ctx.fp 123 = fp123 := rfl
@[simp] theorem flE123 : ctx.fl 123 = fun _ => [] := rfl
@[simp] theorem odE123 : ctx.od 123 = od123 := rfl
theorem run123 {args : List AV} {cs : List Cont} (h : callOk 26 fp123 args cs = true) : callT ctx 123 args cs = denK ctx 123 (codeOf Tryd.f123) (entry 26 gl0 args cs fp123.sites) (finK Tryd.prog fp123 cs.length [.tmp 4]) :=
  call_run rfl rfl Tryd.func123 rfl (by kernel_rfl) Tryd.ntmps123 (by rw [Tryd.results123]) rfl rfl h
theorem ov123 {cl : CallFn} (hcl : ∀ g a c r, cl g a c = some r → callT ctx g a c = some r) {args : List AV} {cs : List Cont} (h : callOk 26 fp123 args cs = true) : Le (denK (ctx.over cl) 123 (codeOf Tryd.f123) (entry 26 gl0 args cs fp123.sites) (finK Tryd.prog fp123 cs.length [.tmp 4])) (callT ctx 123 args cs) :=
  fun r hr => by rw [run123 h]; exact denK_over hcl hr
@[simp] theorem keepE137 : ctx.keep 137 = keep137 := rfl
@[simp] theorem ghE137 : ctx.gh 137 = fun _ => [] := rfl
@[simp] theorem mdE137 : ctx.md 137 = md137 := rfl
@[simp] theorem fpE137 : ctx.fp 137 = fp137 := rfl
@[simp] theorem flE137 : ctx.fl 137 = fun _ => [] := rfl
@[simp] theorem odE137 : ctx.od 137 = od137 := rfl
theorem run137 {args : List AV} {cs : List Cont} (h : callOk 6 fp137 args cs = true) : callT ctx 137 args cs = denK ctx 137 (codeOf Tryd.f137) (entry 6 gl0 args cs fp137.sites) (finK Tryd.prog fp137 cs.length [.tmp 2]) :=
  call_run rfl rfl Tryd.func137 rfl (by kernel_rfl) Tryd.ntmps137 (by rw [Tryd.results137]) rfl rfl h
theorem ov137 {cl : CallFn} (hcl : ∀ g a c r, cl g a c = some r → callT ctx g a c = some r) {args : List AV} {cs : List Cont} (h : callOk 6 fp137 args cs = true) : Le (denK (ctx.over cl) 137 (codeOf Tryd.f137) (entry 6 gl0 args cs fp137.sites) (finK Tryd.prog fp137 cs.length [.tmp 2])) (callT ctx 137 args cs) :=
  fun r hr => by rw [run137 h]; exact denK_over hcl hr
@[simp] theorem keepE138 : ctx.keep 138 = keep138 := rfl
@[simp] theorem ghE138 : ctx.gh 138 = fun _ => [] := rfl
@[simp] theorem mdE138 : ctx.md 138 = md138 := rfl
@[simp] theorem fpE138 : ctx.fp 138 = fp138 := rfl
@[simp] theorem flE138 : ctx.fl 138 = fun _ => [] := rfl
@[simp] theorem odE138 : ctx.od 138 = od138 := rfl
theorem run138 {args : List AV} {cs : List Cont} (h : callOk 81 fp138 args cs = true) : callT ctx 138 args cs = denK ctx 138 (codeOf Tryd.f138) (entry 81 gl0 args cs fp138.sites) (finK Tryd.prog fp138 cs.length [.tmp 4]) :=
  call_run rfl rfl Tryd.func138 rfl (by kernel_rfl) Tryd.ntmps138 (by rw [Tryd.results138]) rfl rfl h
theorem ov138 {cl : CallFn} (hcl : ∀ g a c r, cl g a c = some r → callT ctx g a c = some r) {args : List AV} {cs : List Cont} (h : callOk 81 fp138 args cs = true) : Le (denK (ctx.over cl) 138 (codeOf Tryd.f138) (entry 81 gl0 args cs fp138.sites) (finK Tryd.prog fp138 cs.length [.tmp 4])) (callT ctx 138 args cs) :=
  fun r hr => by rw [run138 h]; exact denK_over hcl hr
@[simp] theorem keepE139 : ctx.keep 139 = keep139 := rfl
@[simp] theorem ghE139 : ctx.gh 139 = fun _ => [] := rfl
@[simp] theorem mdE139 : ctx.md 139 = md139 := rfl
@[simp] theorem fpE139 : ctx.fp 139 = fp139 := rfl
@[simp] theorem flE139 : ctx.fl 139 = fun _ => [] := rfl
@[simp] theorem odE139 : ctx.od 139 = od139 := rfl
theorem run139 {args : List AV} {cs : List Cont} (h : callOk 19 fp139 args cs = true) : callT ctx 139 args cs = denK ctx 139 (codeOf Tryd.f139) (entry 19 gl0 args cs fp139.sites) (finK Tryd.prog fp139 cs.length [.tmp 4]) :=
  call_run rfl rfl Tryd.func139 rfl (by kernel_rfl) Tryd.ntmps139 (by rw [Tryd.results139]) rfl rfl h
theorem ov139 {cl : CallFn} (hcl : ∀ g a c r, cl g a c = some r → callT ctx g a c = some r) {args : List AV} {cs : List Cont} (h : callOk 19 fp139 args cs = true) : Le (denK (ctx.over cl) 139 (codeOf Tryd.f139) (entry 19 gl0 args cs fp139.sites) (finK Tryd.prog fp139 cs.length [.tmp 4])) (callT ctx 139 args cs) :=
  fun r hr => by rw [run139 h]; exact denK_over hcl hr
@[simp] theorem keepE140 : ctx.keep 140 = keep140 := rfl
@[simp] theorem ghE140 : ctx.gh 140 = fun _ => [] := rfl
@[simp] theorem mdE140 : ctx.md 140 = md140 := rfl
@[simp] theorem fpE140 : ctx.fp 140 = fp140 := rfl
@[simp] theorem flE140 : ctx.fl 140 = fun _ => [] := rfl
@[simp] theorem odE140 : ctx.od 140 = od140 := rfl
theorem run140 {args : List AV} {cs : List Cont} (h : callOk 19 fp140 args cs = true) : callT ctx 140 args cs = denK ctx 140 (codeOf Tryd.f140) (entry 19 gl0 args cs fp140.sites) (finK Tryd.prog fp140 cs.length [.tmp 2]) :=
  call_run rfl rfl Tryd.func140 rfl (by kernel_rfl) Tryd.ntmps140 (by rw [Tryd.results140]) rfl rfl h
theorem ov140 {cl : CallFn} (hcl : ∀ g a c r, cl g a c = some r → callT ctx g a c = some r) {args : List AV} {cs : List Cont} (h : callOk 19 fp140 args cs = true) : Le (denK (ctx.over cl) 140 (codeOf Tryd.f140) (entry 19 gl0 args cs fp140.sites) (finK Tryd.prog fp140 cs.length [.tmp 2])) (callT ctx 140 args cs) :=
  fun r hr => by rw [run140 h]; exact denK_over hcl hr
@[simp] theorem keepE141 : ctx.keep 141 = keep141 := rfl
@[simp] theorem ghE141 : ctx.gh 141 = fun _ => [] := rfl
@[simp] theorem mdE141 : ctx.md 141 = md141 := rfl
@[simp] theorem fpE141 : ctx.fp 141 = fp141 := rfl
@[simp] theorem flE141 : ctx.fl 141 = fun _ => [] := rfl
@[simp] theorem odE141 : ctx.od 141 = od141 := rfl
theorem run141 {args : List AV} {cs : List Cont} (h : callOk 10 fp141 args cs = true) : callT ctx 141 args cs = denK ctx 141 (codeOf Tryd.f141) (entry 10 gl0 args cs fp141.sites) (finK Tryd.prog fp141 cs.length [.tmp 2, .tmp 3]) :=
  call_run rfl rfl Tryd.func141 rfl (by kernel_rfl) Tryd.ntmps141 (by rw [Tryd.results141]) rfl rfl h
theorem ov141 {cl : CallFn} (hcl : ∀ g a c r, cl g a c = some r → callT ctx g a c = some r) {args : List AV} {cs : List Cont} (h : callOk 10 fp141 args cs = true) : Le (denK (ctx.over cl) 141 (codeOf Tryd.f141) (entry 10 gl0 args cs fp141.sites) (finK Tryd.prog fp141 cs.length [.tmp 2, .tmp 3])) (callT ctx 141 args cs) :=
  fun r hr => by rw [run141 h]; exact denK_over hcl hr
@[simp] theorem keepE142 : ctx.keep 142 = keep142 := rfl
@[simp] theorem ghE142 : ctx.gh 142 = fun _ => [] := rfl
@[simp] theorem mdE142 : ctx.md 142 = md142 := rfl
@[simp] theorem fpE142 : ctx.fp 142 = fp142 := rfl
@[simp] theorem flE142 : ctx.fl 142 = fun _ => [] := rfl
@[simp] theorem odE142 : ctx.od 142 = od142 := rfl
theorem run142 {args : List AV} {cs : List Cont} (h : callOk 51 fp142 args cs = true) : callT ctx 142 args cs = denK ctx 142 (codeOf Tryd.f142) (entry 51 gl0 args cs fp142.sites) (finK Tryd.prog fp142 cs.length [.cell 4 180]) :=
  call_run rfl rfl Tryd.func142 rfl (by kernel_rfl) Tryd.ntmps142 (by rw [Tryd.results142]) rfl rfl h
theorem ov142 {cl : CallFn} (hcl : ∀ g a c r, cl g a c = some r → callT ctx g a c = some r) {args : List AV} {cs : List Cont} (h : callOk 51 fp142 args cs = true) : Le (denK (ctx.over cl) 142 (codeOf Tryd.f142) (entry 51 gl0 args cs fp142.sites) (finK Tryd.prog fp142 cs.length [.cell 4 180])) (callT ctx 142 args cs) :=
  fun r hr => by rw [run142 h]; exact denK_over hcl hr
@[simp] theorem keepE143 : ctx.keep 143 = keep143 := rfl
@[simp] theorem ghE143 : ctx.gh 143 = fun _ => [] := rfl
@[simp] theorem mdE143 : ctx.md 143 = md143 := rfl
@[simp] theorem fpE143 : ctx.fp 143 = fp143 := rfl
@[simp] theorem flE143 : ctx.fl 143 = fun _ => [] := rfl
@[simp] theorem odE143 : ctx.od 143 = od143 := rfl
theorem run143 {args : List AV} {cs : List Cont} (h : callOk 16 fp143 args cs = true) : callT ctx 143 args cs = denK ctx 143 (codeOf Tryd.f143) (entry 16 gl0 args cs fp143.sites) (finK Tryd.prog fp143 cs.length [.tmp 2]) :=
  call_run rfl rfl Tryd.func143 rfl (by kernel_rfl) Tryd.ntmps143 (by rw [Tryd.results143]) rfl rfl h
theorem ov143 {cl : CallFn} (hcl : ∀ g a c r, cl g a c = some r → callT ctx g a c = some r) {args : List AV} {cs : List Cont} (h : callOk 16 fp143 args cs = true) : Le (denK (ctx.over cl) 143 (codeOf Tryd.f143) (entry 16 gl0 args cs fp143.sites) (finK Tryd.prog fp143 cs.length [.tmp 2])) (callT ctx 143 args cs) :=
  fun r hr => by rw [run143 h]; exact denK_over hcl hr
@[simp] theorem keepE144 : ctx.keep 144 = keep144 := rfl
@[simp] theorem ghE144 : ctx.gh 144 = fun _ => [] := rfl
@[simp] theorem mdE144 : ctx.md 144 = md144 := rfl
@[simp] theorem fpE144 : ctx.fp 144 = fp144 := rfl
@[simp] theorem flE144 : ctx.fl 144 = fun _ => [] := rfl
@[simp] theorem odE144 : ctx.od 144 = od144 := rfl
theorem run144 {args : List AV} {cs : List Cont} (h : callOk 12 fp144 args cs = true) : callT ctx 144 args cs = denK ctx 144 (codeOf Tryd.f144) (entry 12 gl0 args cs fp144.sites) (finK Tryd.prog fp144 cs.length [.tmp 2]) :=
  call_run rfl rfl Tryd.func144 rfl (by kernel_rfl) Tryd.ntmps144 (by rw [Tryd.results144]) rfl rfl h
theorem ov144 {cl : CallFn} (hcl : ∀ g a c r, cl g a c = some r → callT ctx g a c = some r) {args : List AV} {cs : List Cont} (h : callOk 12 fp144 args cs = true) : Le (denK (ctx.over cl) 144 (codeOf Tryd.f144) (entry 12 gl0 args cs fp144.sites) (finK Tryd.prog fp144 cs.length [.tmp 2])) (callT ctx 144 args cs) :=
  fun r hr => by rw [run144 h]; exact denK_over hcl hr
@[simp] theorem keepE145 : ctx.keep 145 = keep145 := rfl
@[simp] theorem ghE145 : ctx.gh 145 = gh145 := rfl
@[simp] theorem mdE145 : ctx.md 145 = md145 := rfl
@[simp] theorem fpE145 : ctx.fp 145 = fp145 := rfl
@[simp] theorem flE145 : ctx.fl 145 = fun _ => [] := rfl
@[simp] theorem odE145 : ctx.od 145 = od145 := rfl
theorem run145 {args : List AV} {cs : List Cont} (h : callOk 38 fp145 args cs = true) : callT ctx 145 args cs = denK ctx 145 (codeOf Tryd.f145) (entry 38 gl0 args cs fp145.sites) (finK Tryd.prog fp145 cs.length [.cell 2 40]) :=
  call_run rfl rfl Tryd.func145 rfl (by kernel_rfl) Tryd.ntmps145 (by rw [Tryd.results145]) rfl rfl h
theorem ov145 {cl : CallFn} (hcl : ∀ g a c r, cl g a c = some r → callT ctx g a c = some r) {args : List AV} {cs : List Cont} (h : callOk 38 fp145 args cs = true) : Le (denK (ctx.over cl) 145 (codeOf Tryd.f145) (entry 38 gl0 args cs fp145.sites) (finK Tryd.prog fp145 cs.length [.cell 2 40])) (callT ctx 145 args cs) :=
  fun r hr => by rw [run145 h]; exact denK_over hcl hr
@[simp] theorem keepE146 : ctx.keep 146 = keep146 := rfl
@[simp] theorem ghE146 : ctx.gh 146 = gh146 := rfl
@[simp] theorem mdE146 : ctx.md 146 = md146 := rfl
@[simp] theorem fpE146 : ctx.fp 146 = fp146 := rfl
@[simp] theorem flE146 : ctx.fl 146 = fun _ => [] := rfl
@[simp] theorem odE146 : ctx.od 146 = od146 := rfl
theorem run146 {args : List AV} {cs : List Cont} (h : callOk 56 fp146 args cs = true) : callT ctx 146 args cs = denK ctx 146 (codeOf Tryd.f146) (entry 56 gl0 args cs fp146.sites) (finK Tryd.prog fp146 cs.length [.cell 2 40]) :=
  call_run rfl rfl Tryd.func146 rfl (by kernel_rfl) Tryd.ntmps146 (by rw [Tryd.results146]) rfl rfl h
theorem ov146 {cl : CallFn} (hcl : ∀ g a c r, cl g a c = some r → callT ctx g a c = some r) {args : List AV} {cs : List Cont} (h : callOk 56 fp146 args cs = true) : Le (denK (ctx.over cl) 146 (codeOf Tryd.f146) (entry 56 gl0 args cs fp146.sites) (finK Tryd.prog fp146 cs.length [.cell 2 40])) (callT ctx 146 args cs) :=
  fun r hr => by rw [run146 h]; exact denK_over hcl hr
@[simp] theorem keepE147 : ctx.keep 147 = keep147 := rfl
@[simp] theorem ghE147 : ctx.gh 147 = fun _ => [] := rfl
@[simp] theorem mdE147 : ctx.md 147 = md147 := rfl
@[simp] theorem fpE147 : ctx.fp 147 = fp147 := rfl
@[simp] theorem flE147 : ctx.fl 147 = fun _ => [] := rfl
@[simp] theorem odE147 : ctx.od 147 = od147 := rfl
theorem run147 {args : List AV} {cs : List Cont} (h : callOk 45 fp147 args cs = true) : callT ctx 147 args cs = denK ctx 147 (codeOf Tryd.f147) (entry 45 gl0 args cs fp147.sites) (finK Tryd.prog fp147 cs.length [.cell 2 40]) :=
  call_run rfl rfl Tryd.func147 rfl (by kernel_rfl) Tryd.ntmps147 (by rw [Tryd.results147]) rfl rfl h
theorem ov147 {cl : CallFn} (hcl : ∀ g a c r, cl g a c = some r → callT ctx g a c = some r) {args : List AV} {cs : List Cont} (h : callOk 45 fp147 args cs = true) : Le (denK (ctx.over cl) 147 (codeOf Tryd.f147) (entry 45 gl0 args cs fp147.sites) (finK Tryd.prog fp147 cs.length [.cell 2 40])) (callT ctx 147 args cs) :=
  fun r hr => by rw [run147 h]; exact denK_over hcl hr
@[simp] theorem keepE148 : ctx.keep 148 = keep148 := rfl
@[simp] theorem ghE148 : ctx.gh 148 = fun _ => [] := rfl
@[simp] theorem mdE148 : ctx.md 148 = md148 := rfl
@[simp] theorem fpE148 : ctx.fp 148 = fp148 := rfl
@[simp] theorem flE148 : ctx.fl 148 = fun _ => [] := rfl
@[simp] theorem odE148 : ctx.od 148 = od148 := rfl
theorem run148 {args : List AV} {cs : List Cont} (h : callOk 5 fp148 args cs = true) : callT ctx 148 args cs = denK ctx 148 (codeOf Tryd.f148) (entry 5 gl0 args cs fp148.sites) (finK Tryd.prog fp148 cs.length [.cell 2 35]) :=
  call_run rfl rfl Tryd.func148 rfl (by kernel_rfl) Tryd.ntmps148 (by rw [Tryd.results148]) rfl rfl h
theorem ov148 {cl : CallFn} (hcl : ∀ g a c r, cl g a c = some r → callT ctx g a c = some r) {args : List AV} {cs : List Cont} (h : callOk 5 fp148 args cs = true) : Le (denK (ctx.over cl) 148 (codeOf Tryd.f148) (entry 5 gl0 args cs fp148.sites) (finK Tryd.prog fp148 cs.length [.cell 2 35])) (callT ctx 148 args cs) :=
  fun r hr => by rw [run148 h]; exact denK_over hcl hr
@[simp] theorem keepE149 : ctx.keep 149 = keep149 := rfl
@[simp] theorem ghE149 : ctx.gh 149 = gh149 := rfl
@[simp] theorem mdE149 : ctx.md 149 = md149 := rfl
@[simp] theorem fpE149 : ctx.fp 149 = fp149 := rfl
@[simp] theorem flE149 : ctx.fl 149 = fun _ => [] := rfl
@[simp] theorem odE149 : ctx.od 149 = od149 := rfl
theorem run149 {args : List AV} {cs : List Cont} (h : callOk 34 fp149 args cs = true) : callT ctx 149 args cs = denK ctx 149 (codeOf Tryd.f149) (entry 34 gl0 args cs fp149.sites) (finK Tryd.prog fp149 cs.length [.cell 4 40]) :=
  call_run rfl rfl Tryd.func149 rfl (by kernel_rfl) Tryd.ntmps149 (by rw [Tryd.results149]) rfl rfl h
theorem ov149 {cl : CallFn} (hcl : ∀ g a c r, cl g a c = some r → callT ctx g a c = some r) {args : List AV} {cs : List Cont} (h : callOk 34 fp149 args cs = true) : Le (denK (ctx.over cl) 149 (codeOf Tryd.f149) (entry 34 gl0 args cs fp149.sites) (finK Tryd.prog fp149 cs.length [.cell 4 40])) (callT ctx 149 args cs) :=
  fun r hr => by rw [run149 h]; exact denK_over hcl hr
@[simp] theorem keepE150 : ctx.keep 150 = keep150 := rfl
@[simp] theorem ghE150 : ctx.gh 150 = fun _ => [] := rfl
@[simp] theorem mdE150 : ctx.md 150 = md150 := rfl
@[simp] theorem fpE150 : ctx.fp 150 = fp150 := rfl
@[simp] theorem flE150 : ctx.fl 150 = fun _ => [] := rfl
@[simp] theorem odE150 : ctx.od 150 = od150 := rfl
theorem run150 {args : List AV} {cs : List Cont} (h : callOk 15 fp150 args cs = true) : callT ctx 150 args cs = denK ctx 150 (codeOf Tryd.f150) (entry 15 gl0 args cs fp150.sites) (finK Tryd.prog fp150 cs.length [.cell 2 35]) :=
  call_run rfl rfl Tryd.func150 rfl (by kernel_rfl) Tryd.ntmps150 (by rw [Tryd.results150]) rfl rfl h
theorem ov150 {cl : CallFn} (hcl : ∀ g a c r, cl g a c = some r → callT ctx g a c = some r) {args : List AV} {cs : List Cont} (h : callOk 15 fp150 args cs = true) : Le (denK (ctx.over cl) 150 (codeOf Tryd.f150) (entry 15 gl0 args cs fp150.sites) (finK Tryd.prog fp150 cs.length [.cell 2 35])) (callT ctx 150 args cs) :=
  fun r hr => by rw [run150 h]; exact denK_over hcl hr
@[simp] theorem keepE157 : ctx.keep 157 = keep157 := rfl
@[simp] theorem ghE157 : ctx.gh 157 = fun _ => [] := rfl
@[simp] theorem mdE157 : ctx.md 157 = md157 := rfl
@[simp] theorem fpE157 : ctx.fp 157 = fp157 := rfl
@[simp] theorem flE157 : ctx.fl 157 = fun _ => [] := rfl
@[simp] theorem odE157 : ctx.od 157 = od157 := rfl
theorem run157 {args : List AV} {cs : List Cont} (h : callOk 39 fp157 args cs = true) : callT ctx 157 args cs = denK ctx 157 (codeOf Tryd.f157) (entry 39 gl0 args cs fp157.sites) (finK Tryd.prog fp157 cs.length [.tmp 2, .tmp 3]) :=
  call_run rfl rfl Tryd.func157 rfl (by kernel_rfl) Tryd.ntmps157 (by rw [Tryd.results157]) rfl rfl h
theorem ov157 {cl : CallFn} (hcl : ∀ g a c r, cl g a c = some r → callT ctx g a c = some r) {args : List AV} {cs : List Cont} (h : callOk 39 fp157 args cs = true) : Le (denK (ctx.over cl) 157 (codeOf Tryd.f157) (entry 39 gl0 args cs fp157.sites) (finK Tryd.prog fp157 cs.length [.tmp 2, .tmp 3])) (callT ctx 157 args cs) :=
  fun r hr => by rw [run157 h]; exact denK_over hcl hr
@[simp] theorem keepE158 : ctx.keep 158 = keep158 := rfl
@[simp] theorem ghE158 : ctx.gh 158 = fun _ => [] := rfl
@[simp] theorem mdE158 : ctx.md 158 = md158 := rfl
@[simp] theorem fpE158 : ctx.fp 158 = fp158 := rfl
@[simp] theorem flE158 : ctx.fl 158 = fun _ => [] := rfl
@[simp] theorem odE158 : ctx.od 158 = od158 := rfl
theorem run158 {args : List AV} {cs : List Cont} (h : callOk 59 fp158 args cs = true) : callT ctx 158 args cs = denK ctx 158 (codeOf Tryd.f158) (entry 59 gl0 args cs fp158.sites) (finK Tryd.prog fp158 cs.length [.tmp 4]) :=
  call_run rfl rfl Tryd.func158 rfl (by kernel_rfl) Tryd.ntmps158 (by rw [Tryd.results158]) rfl rfl h
theorem ov158 {cl : CallFn} (hcl : ∀ g a c r, cl g a c = some r → callT ctx g a c = some r) {args : List AV} {cs : List Cont} (h : callOk 59 fp158 args cs = true) : Le (denK (ctx.over cl) 158 (codeOf Tryd.f158) (entry 59 gl0 args cs fp158.sites) (finK Tryd.prog fp158 cs.length [.tmp 4])) (callT ctx 158 args cs) :=
  fun r hr => by rw [run158 h]; exact denK_over hcl hr
@[simp] theorem keepE159 : ctx.keep 159 = keep159 := rfl
@[simp] theorem ghE159 : ctx.gh 159 = fun _ => [] := rfl
@[simp] theorem mdE159 : ctx.md 159 = md159 := rfl
@[simp] theorem fpE159 : ctx.fp 159 = fp159 := rfl
@[simp] theorem flE159 : ctx.fl 159 = fun _ => [] := rfl
@[simp] theorem odE159 : ctx.od 159 = od159 := rfl
theorem run159 {args : List AV} {cs : List Cont} (h : callOk 23 fp159 args cs = true) : callT ctx 159 args cs = denK ctx 159 (codeOf Tryd.f159) (entry 23 gl0 args cs fp159.sites) (finK Tryd.prog fp159 cs.length [.tmp 0]) :=
  call_run rfl rfl Tryd.func159 rfl (by kernel_rfl) Tryd.ntmps159 (by rw [Tryd.results159]) rfl rfl h
theorem ov159 {cl : CallFn} (hcl : ∀ g a c r, cl g a c = some r → callT ctx g a c = some r) {args : List AV} {cs : List Cont} (h : callOk 23 fp159 args cs = true) : Le (denK (ctx.over cl) 159 (codeOf Tryd.f159) (entry 23 gl0 args cs fp159.sites) (finK Tryd.prog fp159 cs.length [.tmp 0])) (callT ctx 159 args cs) :=
  fun r hr => by rw [run159 h]; exact denK_over hcl hr
@[simp] theorem keepE160 : ctx.keep 160 = keep160 := rfl
@[simp] theorem ghE160 : ctx.gh 160 = fun _ => [] := rfl
@[simp] theorem mdE160 : ctx.md 160 = md160 := rfl
@[simp] theorem fpE160 : ctx.fp 160 = fp160 := rfl
@[simp] theorem flE160 : ctx.fl 160 = fun _ => [] := rfl
@[simp] theorem odE160 : ctx.od 160 = od160 := rfl
theorem run160 {args : List AV} {cs : List Cont} (h : callOk 19 fp160 args cs = true) : callT ctx 160 args cs = denK ctx 160 (codeOf Tryd.f160) (entry 19 gl0 args cs fp160.sites) (finK Tryd.prog fp160 cs.length [.tmp 4]) :=
  call_run rfl rfl Tryd.func160 rfl (by kernel_rfl) Tryd.ntmps160 (by rw [Tryd.results160]) rfl rfl h
theorem ov160 {cl : CallFn} (hcl : ∀ g a c r, cl g a c = some r → callT ctx g a c = some r) {args : List AV} {cs : List Cont} (h : callOk 19 fp160 args cs = true) : Le (denK (ctx.over cl) 160 (codeOf Tryd.f160) (entry 19 gl0 args cs fp160.sites) (finK Tryd.prog fp160 cs.length [.tmp 4])) (callT ctx 160 args cs) :=
  fun r hr => by rw [run160 h]; exact denK_over hcl hr
@[simp] theorem keepE161 : ctx.keep 161 = keep161 := rfl
@[simp] theorem ghE161 : ctx.gh 161 = fun _ => [] := rfl
@[simp] theorem mdE161 : ctx.md 161 = md161 := rfl
@[simp] theorem fpE161 : ctx.fp 161 = fp161 := rfl
@[simp] theorem flE161 : ctx.fl 161 = fun _ => [] := rfl
@[simp] theorem odE161 : ctx.od 161 = od161 := rfl
theorem run161 {args : List AV} {cs : List Cont} (h : callOk 8 fp161 args cs = true) : callT ctx 161 args cs = denK ctx 161 (codeOf Tryd.f161) (entry 8 gl0 args cs fp161.sites) (finK Tryd.prog fp161 cs.length [.tmp 3]) :=
  call_run rfl rfl Tryd.func161 rfl (by kernel_rfl) Tryd.ntmps161 (by rw [Tryd.results161]) rfl rfl h
theorem ov161 {cl : CallFn} (hcl : ∀ g a c r, cl g a c = some r → callT ctx g a c = some r) {args : List AV} {cs : List Cont} (h : callOk 8 fp161 args cs = true) : Le (denK (ctx.over cl) 161 (codeOf Tryd.f161) (entry 8 gl0 args cs fp161.sites) (finK Tryd.prog fp161 cs.length [.tmp 3])) (callT ctx 161 args cs) :=
  fun r hr => by rw [run161 h]; exact denK_over hcl hr
@[simp] theorem keepE162 : ctx.keep 162 = keep162 := rfl
@[simp] theorem ghE162 : ctx.gh 162 = fun _ => [] := rfl
@[simp] theorem mdE162 : ctx.md 162 = md162 := rfl
@[simp] theorem fpE162 : ctx.fp 162 = fp162 := rfl
@[simp] theorem flE162 : ctx.fl 162 = fun _ => [] := rfl
@[simp] theorem odE162 : ctx.od 162 = od162 := rfl
theorem run162 {args : List AV} {cs : List Cont} (h : callOk 11 fp162 args cs = true) : callT ctx 162 args cs = denK ctx 162 (codeOf Tryd.f162) (entry 11 gl0 args cs fp162.sites) (finK Tryd.prog fp162 cs.length [.tmp 2]) :=
  call_run rfl rfl Tryd.func162 rfl (by kernel_rfl) Tryd.ntmps162 (by rw [Tryd.results162]) rfl rfl h
theorem ov162 {cl : CallFn} (hcl : ∀ g a c r, cl g a c = some r → callT ctx g a c = some r) {args : List AV} {cs : List Cont} (h : callOk 11 fp162 args cs = true) : Le (denK (ctx.over cl) 162 (codeOf Tryd.f162) (entry 11 gl0 args cs fp162.sites) (finK Tryd.prog fp162 cs.length [.tmp 2])) (callT ctx 162 args cs) :=
  fun r hr => by rw [run162 h]; exact denK_over hcl hr
@[simp] theorem keepE163 : ctx.keep 163 = keep163 := rfl
@[simp] theorem ghE163 : ctx.gh 163 = fun _ => [] := rfl
@[simp] theorem mdE163 : ctx.md 163 = md163 := rfl
@[simp] theorem fpE163 : ctx.fp 163 = fp163 := rfl
@[simp] theorem flE163 : ctx.fl 163 = fun _ => [] := rfl
@[simp] theorem odE163 : ctx.od 163 = od163 := rfl
theorem run163 {args : List AV} {cs : List Cont} (h : callOk 24 fp163 args cs = true) : callT ctx 163 args cs = denK ctx 163 (codeOf Tryd.f163) (entry 24 gl0 args cs fp163.sites) (finK Tryd.prog fp163 cs.length [.tmp 2]) :=
  call_run rfl rfl Tryd.func163 rfl (by kernel_rfl) Tryd.ntmps163 (by rw [Tryd.results163]) rfl rfl h
theorem ov163 {cl : CallFn} (hcl : ∀ g a c r, cl g a c = some r → callT ctx g a c = some r) {args : List AV} {cs : List Cont} (h : callOk 24 fp163 args cs = true) : Le (denK (ctx.over cl) 163 (codeOf Tryd.f163) (entry 24 gl0 args cs fp163.sites) (finK Tryd.prog fp163 cs.length [.tmp 2])) (callT ctx 163 args cs) :=
  fun r hr => by rw [run163 h]; exact denK_over hcl hr
@[simp] theorem keepE164 : ctx.keep 164 = keep164 := rfl
@[simp] theorem ghE164 : ctx.gh 164 = fun _ => [] := rfl
@[simp] theorem mdE164 : ctx.md 164 = md164 := rfl
@[simp] theorem fpE164 : ctx.fp 164 = fp164 := rfl
@[simp] theorem flE164 : ctx.fl 164 = fun _ => [] := rfl
@[simp] theorem odE164 : ctx.od 164 = od164 := rfl
theorem run164 {args : List AV} {cs : List Cont} (h : callOk 43 fp164 args cs = true) : callT ctx 164 args cs = denK ctx 164 (codeOf Tryd.f164) (entry 43 gl0 args cs fp164.sites) (finK Tryd.prog fp164 cs.length [.cell 4 35]) :=
  call_run rfl rfl Tryd.func164 rfl (by kernel_rfl) Tryd.ntmps164 (by rw [Tryd.results164]) rfl rfl h
theorem ov164 {cl : CallFn} (hcl : ∀ g a c r, cl g a c = some r → callT ctx g a c = some r) {args : List AV} {cs : List Cont} (h : callOk 43 fp164 args cs = true) : Le (denK (ctx.over cl) 164 (codeOf Tryd.f164) (entry 43 gl0 args cs fp164.sites) (finK Tryd.prog fp164 cs.length [.cell 4 35])) (callT ctx 164 args cs) :=
  fun r hr => by rw [run164 h]; exact denK_over hcl hr
@[simp] theorem keepE172 : ctx.keep 172 = keep172 := rfl
@[simp] theorem ghE172 : ctx.gh 172 = fun _ => [] := rfl
@[simp] theorem mdE172 : ctx.md 172 = md172 := rfl
@[simp] theorem fpE172 : ctx.fp 172 = fp172 := rfl
@[simp] theorem flE172 : ctx.fl 172 = fun _ => [] := rfl
@[simp] theorem odE172 : ctx.od 172 = od172 := rfl
theorem run172 {args : List AV} {cs : List Cont} (h : callOk 114 fp172 args cs = true) : callT ctx 172 args cs = denK ctx 172 (codeOf Tryd.f172) (entry 114 gl0 args cs fp172.sites) (finK Tryd.prog fp172 cs.length [.tmp 4]) :=
  call_run rfl rfl Tryd.func172 rfl (by kernel_rfl) Tryd.ntmps172 (by rw [Tryd.results172]) rfl rfl h
theorem ov172 {cl : CallFn} (hcl : ∀ g a c r, cl g a c = some r → callT ctx g a c = some r) {args : List AV} {cs : List Cont} (h : callOk 114 fp172 args cs = true) : Le (denK (ctx.over cl) 172 (codeOf Tryd.f172) (entry 114 gl0 args cs fp172.sites) (finK Tryd.prog fp172 cs.length [.tmp 4])) (callT ctx 172 args cs) :=
  fun r hr => by rw [run172 h]; exact denK_over hcl hr
@[simp] theorem keepE173 : ctx.keep 173 = keep173 := rfl
@[simp] theorem ghE173 : ctx.gh 173 = fun _ => [] := rfl
@[simp] theorem mdE173 : ctx.md 173 = md173 := rfl
@[simp] theorem fpE173 : ctx.fp 173 = fp173 := rfl
@[simp] theorem flE173 : ctx.fl 173 = fun _ => [] := rfl
@[simp] theorem odE173 : ctx.od 173 = od173 := rfl
theorem run173 {args : List AV} {cs : List Cont} (h : callOk 99 fp173 args cs = true) : callT ctx 173 args cs = denK ctx 173 (codeOf Tryd.f173) (entry 99 gl0 args cs fp173.sites) (finK Tryd.prog fp173 cs.length [.tmp 4]) :=
  call_run rfl rfl Tryd.func173 rfl (by kernel_rfl) Tryd.ntmps173 (by rw [Tryd.results173]) rfl rfl h
theorem ov173 {cl : CallFn} (hcl : ∀ g a c r, cl g a c = some r → callT ctx g a c = some r) {args : List AV} {cs : List Cont} (h : callOk 99 fp173 args cs = true) : Le (denK (ctx.over cl) 173 (codeOf Tryd.f173) (entry 99 gl0 args cs fp173.sites) (finK Tryd.prog fp173 cs.length [.tmp 4])) (callT ctx 173 args cs) :=
  fun r hr => by rw [run173 h]; exact denK_over hcl hr
@[simp] theorem keepE174 : ctx.keep 174 = keep174 := rfl
@[simp] theorem ghE174 : ctx.gh 174 = fun _ => [] := rfl
@[simp] theorem mdE174 : ctx.md 174 = md174 := rfl
@[simp] theorem fpE174 : ctx.fp 174 = fp174 := rfl
@[simp] theorem flE174 : ctx.fl 174 = fun _ => [] := rfl
@[simp] theorem odE174 : ctx.od 174 = od174 := rfl
theorem run174 {args : List AV} {cs : List Cont} (h : callOk 8 fp174 args cs = true) : callT ctx 174 args cs = denK ctx 174 (codeOf Tryd.f174) (entry 8 gl0 args cs fp174.sites) (finK Tryd.prog fp174 cs.length [.tmp 0]) :=
  call_run rfl rfl Tryd.func174 rfl (by kernel_rfl) Tryd.ntmps174 (by rw [Tryd.results174]) rfl rfl h
theorem ov174 {cl : CallFn} (hcl : ∀ g a c r, cl g a c = some r → callT ctx g a c = some r) {args : List AV} {cs : List Cont} (h : callOk 8 fp174 args cs = true) : Le (denK (ctx.over cl) 174 (codeOf Tryd.f174) (entry 8 gl0 args cs fp174.sites) (finK Tryd.prog fp174 cs.length [.tmp 0])) (callT ctx 174 args cs) :=
  fun r hr => by rw [run174 h]; exact denK_over hcl hr
@[simp] theorem keepE175 : ctx.keep 175 = keep175 := rfl
@[simp] theorem ghE175 : ctx.gh 175 = fun _ => [] := rfl
@[simp] theorem mdE175 : ctx.md 175 = md175 := rfl
@[simp] theorem fpE175 : ctx.fp 175 = fp175 := rfl
@[simp] theorem flE175 : ctx.fl 175 = fun _ => [] := rfl
@[simp] theorem odE175 : ctx.od 175 = od175 := rfl
theorem run175 {args : List AV} {cs : List Cont} (h : callOk 30 fp175 args cs = true) : callT ctx 175 args cs = denK ctx 175 (codeOf Tryd.f175) (entry 30 gl0 args cs fp175.sites) (finK Tryd.prog fp175 cs.length [.cell 2 35]) :=
  call_run rfl rfl Tryd.func175 rfl (by kernel_rfl) Tryd.ntmps175 (by rw [Tryd.results175]) rfl rfl h
theorem ov175 {cl : CallFn} (hcl : ∀ g a c r, cl g a c = some r → callT ctx g a c = some r) {args : List AV} {cs : List Cont} (h : callOk 30 fp175 args cs = true) : Le (denK (ctx.over cl) 175 (codeOf Tryd.f175) (entry 30 gl0 args cs fp175.sites) (finK Tryd.prog fp175 cs.length [.cell 2 35])) (callT ctx 175 args cs) :=
  fun r hr => by rw [run175 h]; exact denK_over hcl hr
@[simp] theorem keepE176 : ctx.keep 176 = keep176 := rfl
@[simp] theorem ghE176 : ctx.gh 176 = fun _ => [] := rfl
@[simp] theorem mdE176 : ctx.md 176 = md176 := rfl
@[simp] theorem fpE176 : ctx.fp 176 = fp176 := rfl
@[simp] theorem flE176 : ctx.fl 176 = fun _ => [] := rfl
@[simp] theorem odE176 : ctx.od 176 = od176 := rfl
theorem run176 {args : List AV} {cs : List Cont} (h : callOk 9 fp176 args cs = true) : callT ctx 176 args cs = denK ctx 176 (codeOf Tryd.f176) (entry 9 gl0 args cs fp176.sites) (finK Tryd.prog fp176 cs.length [.tmp 2]) :=
  call_run rfl rfl Tryd.func176 rfl (by kernel_rfl) Tryd.ntmps176 (by rw [Tryd.results176]) rfl rfl h
theorem ov176 {cl : CallFn} (hcl : ∀ g a c r, cl g a c = some r → callT ctx g a c = some r) {args : List AV} {cs : List Cont} (h : callOk 9 fp176 args cs = true) : Le (denK (ctx.over cl) 176 (codeOf Tryd.f176) (entry 9 gl0 args cs fp176.sites) (finK Tryd.prog fp176 cs.length [.tmp 2])) (callT ctx 176 args cs) :=
  fun r hr => by rw [run176 h]; exact denK_over hcl hr
@[simp] theorem keepE181 : ctx.keep 181 = keep181 := rfl
@[simp] theorem ghE181 : ctx.gh 181 = fun _ => [] := rfl
@[simp] theorem mdE181 : ctx.md 181 = md181 := rfl
@[simp] theorem fpE181 : ctx.fp 181 = fp181 := rfl
@[simp] theorem flE181 : ctx.fl 181 = fun _ => [] := rfl
@[simp] theorem odE181 : ctx.od 181 = od181 := rfl
theorem run181 {args : List AV} {cs : List Cont} (h : callOk 72 fp181 args cs = true) : callT ctx 181 args cs = denK ctx 181 (codeOf Tryd.f181) (entry 72 gl0 args cs fp181.sites) (finK Tryd.prog fp181 cs.length [.cell 2 35]) :=
  call_run rfl rfl Tryd.func181 rfl (by kernel_rfl) Tryd.ntmps181 (by rw [Tryd.results181]) rfl rfl h
theorem ov181 {cl : CallFn} (hcl : ∀ g a c r, cl g a c = some r → callT ctx g a c = some r) {args : List AV} {cs : List Cont} (h : callOk 72 fp181 args cs = true) : Le (denK (ctx.over cl) 181 (codeOf Tryd.f181) (entry 72 gl0 args cs fp181.sites) (finK Tryd.prog fp181 cs.length [.cell 2 35])) (callT ctx 181 args cs) :=
  fun r hr => by rw [run181 h]; exact denK_over hcl hr
end Go.Am
end
section
namespace Go.Am
open Go
@[simp] theorem range_2 : List.range 2 = [0, 1] := rfl
@[simp] theorem range_3 : List.range 3 = [0, 1, 2] := rfl
@[simp] theorem range_4 : List.range 4 = [0, 1, 2, 3] := rfl
@[simp] theorem range_5 : List.range 5 = [0, 1, 2, 3, 4] := rfl
@[simp] theorem range_6 : List.range 6 = [0, 1, 2, 3, 4, 5] := rfl
@[simp] theorem int_beq (a b : Int) : (a == b) = decide (a = b) := by by_cases h : a = b <;> simp [h]
def I64 (n : Int) : Prop := -9223372036854775808 ≤ n ∧ n ≤ 9223372036854775807
theorem wrap_id {n : Int} (h : I64 n) : IntKind.i64.wrap n = n := IntWalk.i64_in _ (by unfold I64 at h; omega)
end Go.Am
end
section
namespace Go.Am
@[simp] def sgnD (t : Sgn) : D := .agg [.int .i64 t.kind, .str t.text, .int .i64 t.n, .int .i64 t.line, .int .i64 t.col]
end Go.Am
end
section
namespace Go.Am
open Go Go.Proofs
variable [Inhabited Mx2]
set_option maxRecDepth 20000
def pB (L : List Sgn) (s : PS) : List AV := [.d (.list (L.map sgnD)), .d (.int .i64 s.at_), .d (.int .i64 s.deep), .vec 1 0 0 s.vars.length]
def pC (L : List Sgn) (s : PS) : List Cont := [.box (pB L s), .vec 8 (s.vars.map vrD)]
def pC2 (L : List Sgn) (s : PS) : List (Nat × Cont) := [(0, .box (pB L s)), (0, .vec 8 (s.vars.map vrD))]
def fD (e : Er) : D := .agg [.int .i64 e.e, .int .i64 0, .str [], .int .i64 0, .int .i64 e.line, .int .i64 e.col]
def badK (L : List Sgn) (e : Er) (s : PS) : Ans := some (.panic 67 (fD e), pC2 L s)
section
variable {L : List Sgn} {s : PS}
theorem now_run : callT ctx 79 [.ptr 0 0 0] (pC L s) = (nowS L s).el (fun t s => some (.ret (.d (sgnD t)), pC2 L s)) (badK L) := by
  rw [run79 (by simp [pC])]
  by_cases h : s.at_ < L.length
  · simp [Tryd.f79, drwK_end, pC, pC2, pB, nowS, h, sgnD]
  · simp [Tryd.f79, drwK_end, pC, pC2, pB, nowS, h, sgnD]
@[simp] theorem tx_beq (a b : Tx) : (a == b) = decide (a = b) := by by_cases h : a = b <;> simp [h]
theorem badKB : badK L = fun e s => some (.panic 67 (fD e), [(0, .box [.d (.list (L.map sgnD)), .d (.int .i64 s.at_), .d (.int .i64 s.deep), .vec 1 0 0 s.vars.length]), (0, .vec 8 (s.vars.map vrD))]) := rfl
theorem pCB : pC L s = [.box [.d (.list (L.map sgnD)), .d (.int .i64 s.at_), .d (.int .i64 s.deep), .vec 1 0 0 s.vars.length], .vec 8 (s.vars.map vrD)] := rfl
theorem pC2B : pC2 L s = [(0, .box [.d (.list (L.map sgnD)), .d (.int .i64 s.at_), .d (.int .i64 s.deep), .vec 1 0 0 s.vars.length]), (0, .vec 8 (s.vars.map vrD))] := rfl
theorem now_r : callT ctx 79 [.ptr 0 0 0] [.box [.d (.list (L.map sgnD)), .d (.int .i64 s.at_), .d (.int .i64 s.deep), .vec 1 0 0 s.vars.length], .vec 8 (s.vars.map vrD)] = (nowS L s).el (fun t s => some (.ret (.d (sgnD t)), pC2 L s)) (badK L) := now_run
theorem fail_run (e : Int) (t : Sgn) : callT ctx 78 [.d (.int .i64 e), .d (sgnD t)] [] = some (.panic 67 (fD ⟨e, t.line, t.col⟩), []) := by
  rw [run78 (by simp)]
  simp [Tryd.f78, fD]
theorem fail_r (e k n l c : Int) (x : Tx) : callT ctx 78 [.d (.int .i64 e), .d (.agg [.int .i64 k, .str x, .int .i64 n, .int .i64 l, .int .i64 c])] [] = some (.panic 67 (fD ⟨e, l, c⟩), []) := fail_run e ⟨k, x, n, l, c⟩
@[simp] theorem ite_f {β : Type} {b : Bool} {x y : β} : (if b = false then x else y) = if b = true then y else x := by cases b <;> rfl
theorem is_run (w : Tx) : callT ctx 83 [.ptr 0 0 0, .d (.str w)] (pC L s) = (isS L w s).el (fun b s => some (.ret (.d (.bool b)), pC2 L s)) (badK L) := by
  rw [run83 (by simp [pC])]
  simp [Tryd.f83, pCB, now_r, isS, isW, pC2B, badKB]
theorem take_run (hL : L.length < 1000000) : callT ctx 80 [.ptr 0 0 0] (pC L s) = (takeS L s).el (fun t s => some (.ret (.d (sgnD t)), pC2 L s)) (badK L) := by
  by_cases h : s.at_ < L.length
  · have w1 : IntKind.i64.wrap ((s.at_ : Int) + 1) = (s.at_ : Int) + 1 := wrap_id (by unfold I64; omega)
    rw [run80 (by simp [pC])]
    by_cases hk : L[s.at_].kind = 0
    · simp [Tryd.f80, pCB, now_r, takeS, nowS, pC2B, badKB, h, hk, w1]
    · simp [Tryd.f80, pCB, now_r, takeS, nowS, pC2B, badKB, h, hk, w1]
  · rw [run80 (by simp [pC])]
    simp [Tryd.f80, pCB, now_r, takeS, nowS, pC2B, badKB, h]
end
section
variable {L : List Sgn} {s : PS} (hL : L.length < 1000000)
theorem is_r (w : Tx) : callT ctx 83 [.ptr 0 0 0, .d (.str w)] [.box [.d (.list (L.map sgnD)), .d (.int .i64 s.at_), .d (.int .i64 s.deep), .vec 1 0 0 s.vars.length], .vec 8 (s.vars.map vrD)] = (isS L w s).el (fun b s => some (.ret (.d (.bool b)), pC2 L s)) (badK L) := is_run w
include hL
theorem take_r : callT ctx 80 [.ptr 0 0 0] [.box [.d (.list (L.map sgnD)), .d (.int .i64 s.at_), .d (.int .i64 s.deep), .vec 1 0 0 s.vars.length], .vec 8 (s.vars.map vrD)] = (takeS L s).el (fun t s => some (.ret (.d (sgnD t)), pC2 L s)) (badK L) := take_run hL
theorem may_r (w : Tx) : callT ctx 77 [.ptr 0 0 0, .d (.str w)] [.box [.d (.list (L.map sgnD)), .d (.int .i64 s.at_), .d (.int .i64 s.deep), .vec 1 0 0 s.vars.length], .vec 8 (s.vars.map vrD)] = (mayS L w s).el (fun b s => some (.ret (.d (.bool b)), pC2 L s)) (badK L) := by
  rw [run77 (by simp)]
  simp [Tryd.f77, is_r, take_r hL, mayS, pC2B, badKB]
theorem must_r (w : Tx) : callT ctx 49 [.ptr 0 0 0, .d (.str w)] [.box [.d (.list (L.map sgnD)), .d (.int .i64 s.at_), .d (.int .i64 s.deep), .vec 1 0 0 s.vars.length], .vec 8 (s.vars.map vrD)] = (mustS L w s).el (fun _ s => some (.ret (.tup []), pC2 L s)) (badK L) := by
  rw [run49 (by simp)]
  simp [Tryd.f49, may_r hL, now_r, fail_r, failS, mustS, pC2B, badKB]
theorem kind_r (k : Int) : callT ctx 50 [.ptr 0 0 0, .d (.int .i64 k)] [.box [.d (.list (L.map sgnD)), .d (.int .i64 s.at_), .d (.int .i64 s.deep), .vec 1 0 0 s.vars.length], .vec 8 (s.vars.map vrD)] = (kindS L k s).el (fun t s => some (.ret (.d (sgnD t)), pC2 L s)) (badK L) := by
  rw [run50 (by simp)]
  simp [Tryd.f50, take_r hL, now_r, fail_r, failS, kindS, pC2B, badKB]
theorem in_r : callT ctx 116 [.ptr 0 0 0] [.box [.d (.list (L.map sgnD)), .d (.int .i64 s.at_), .d (.int .i64 s.deep), .vec 1 0 0 s.vars.length], .vec 8 (s.vars.map vrD)] = (inS L s).el (fun _ s => some (.ret (.tup []), pC2 L s)) (badK L) := by
  have h := now_r (L := L) (s := { s with deep := wr (s.deep + 1) })
  simp only at h
  rw [run116 (by simp)]
  simp [Tryd.f116, h, fail_r, failS, inS, pC2B, badKB]
theorem out_r : callT ctx 118 [.ptr 0 0 0] [.box [.d (.list (L.map sgnD)), .d (.int .i64 s.at_), .d (.int .i64 s.deep), .vec 1 0 0 s.vars.length], .vec 8 (s.vars.map vrD)] = (outS s).el (fun _ s => some (.ret (.tup []), pC2 L s)) (badK L) := by
  rw [run118 (by simp)]
  simp [Tryd.f118, outS, pC2B, badKB]
theorem plain_r : callT ctx 141 [.ptr 0 0 0] [.box [.d (.list (L.map sgnD)), .d (.int .i64 s.at_), .d (.int .i64 s.deep), .vec 1 0 0 s.vars.length], .vec 8 (s.vars.map vrD)] = (plainS L s).el (fun p s => some (.ret (.tup [.d (.int .i64 p.1), .d (.bool p.2)]), pC2 L s)) (badK L) := by
  rw [run141 (by simp)]
  simp [Tryd.f141, may_r hL, plainS, pC2B, badKB]
theorem signed_r : callT ctx 144 [.ptr 0 0 0] [.box [.d (.list (L.map sgnD)), .d (.int .i64 s.at_), .d (.int .i64 s.deep), .vec 1 0 0 s.vars.length], .vec 8 (s.vars.map vrD)] = (signedS L s).el (fun n s => some (.ret (.d (.int .i64 n)), pC2 L s)) (badK L) := by
  rw [run144 (by simp)]
  simp [Tryd.f144, may_r hL, kind_r hL, signedS, pC2B, badKB]
theorem value_r : callT ctx 114 [.ptr 0 0 0] [.box [.d (.list (L.map sgnD)), .d (.int .i64 s.at_), .d (.int .i64 s.deep), .vec 1 0 0 s.vars.length], .vec 8 (s.vars.map vrD)] = (valueS L s).el (fun p s => some (.ret (.tup [.d (.int .i64 p.1), .d (.bool p.2)]), pC2 L s)) (badK L) := by
  rw [run114 (by simp)]
  simp [Tryd.f114, may_r hL, signed_r hL, valueS, pC2B, badKB]
theorem labelled_r : callT ctx 162 [.ptr 0 0 0] [.box [.d (.list (L.map sgnD)), .d (.int .i64 s.at_), .d (.int .i64 s.deep), .vec 1 0 0 s.vars.length], .vec 8 (s.vars.map vrD)] = (labelledS L s).el (fun b s => some (.ret (.d (.bool b)), pC2 L s)) (badK L) := by
  rw [run162 (by simp)]
  simp [Tryd.f162, now_r, is_r, labelledS, pC2B, badKB]
end
end Go.Am
end
section
namespace Go.Am
open Go Go.Proofs
variable [Inhabited Mx2]
set_option maxRecDepth 20000
structure Sh where
  k : Int
  name : Tx
  ins : Tx
  outs : Tx
  n : Int
def shT : List Sh := [
  ⟨10, [84, 79, 78], [73, 78, 32, 80, 84, 35], [81, 32, 69, 84, 35], 0⟩,
  ⟨11, [84, 79, 70], [73, 78, 32, 80, 84, 35], [81, 32, 69, 84, 35], 0⟩,
  ⟨12, [84, 80], [73, 78, 32, 80, 84, 35], [81, 32, 69, 84, 35], 2⟩,
  ⟨13, [67, 84, 85], [67, 85, 32, 82, 32, 80, 86, 35], [81, 32, 67, 86, 35], 1⟩,
  ⟨14, [67, 84, 68], [67, 68, 32, 76, 68, 32, 80, 86, 35], [81, 32, 67, 86, 35], 1⟩,
  ⟨15, [82, 95, 84, 82, 73, 71], [67, 76, 75], [81], 1⟩,
  ⟨16, [70, 95, 84, 82, 73, 71], [67, 76, 75], [81], 1⟩,
  ⟨17, [83, 82], [83, 49, 32, 82], [81, 49], 0⟩,
  ⟨18, [82, 83], [83, 32, 82, 49], [81, 49], 0⟩,
  ⟨20, [77, 67, 95, 80, 111, 119, 101, 114], [65, 120, 105, 115, 35, 32, 69, 110, 97, 98, 108, 101], [83, 116, 97, 116, 117, 115, 32, 69, 114, 114, 111, 114], 0⟩,
  ⟨21, [77, 67, 95, 72, 111, 109, 101], [65, 120, 105, 115, 35, 32, 69, 120, 101, 99, 117, 116, 101], [68, 111, 110, 101, 32, 66, 117, 115, 121, 32, 65, 99, 116, 105, 118, 101, 32, 67, 111, 109, 109, 97, 110, 100, 65, 98, 111, 114, 116, 101, 100, 32, 69, 114, 114, 111, 114], 2⟩,
  ⟨22, [77, 67, 95, 83, 116, 111, 112], [65, 120, 105, 115, 35, 32, 69, 120, 101, 99, 117, 116, 101], [68, 111, 110, 101, 32, 66, 117, 115, 121, 32, 65, 99, 116, 105, 118, 101, 32, 67, 111, 109, 109, 97, 110, 100, 65, 98, 111, 114, 116, 101, 100, 32, 69, 114, 114, 111, 114], 2⟩,
  ⟨23, [77, 67, 95, 72, 97, 108, 116], [65, 120, 105, 115, 35, 32, 69, 120, 101, 99, 117, 116, 101], [68, 111, 110, 101, 32, 66, 117, 115, 121, 32, 65, 99, 116, 105, 118, 101, 32, 67, 111, 109, 109, 97, 110, 100, 65, 98, 111, 114, 116, 101, 100, 32, 69, 114, 114, 111, 114], 2⟩,
  ⟨24, [77, 67, 95, 77, 111, 118, 101, 65, 98, 115, 111, 108, 117, 116, 101], [65, 120, 105, 115, 35, 32, 69, 120, 101, 99, 117, 116, 101, 32, 80, 111, 115, 105, 116, 105, 111, 110, 35, 32, 86, 101, 108, 111, 99, 105, 116, 121, 35, 32, 66, 117, 102, 102, 101, 114, 77, 111, 100, 101, 35], [68, 111, 110, 101, 32, 66, 117, 115, 121, 32, 65, 99, 116, 105, 118, 101, 32, 67, 111, 109, 109, 97, 110, 100, 65, 98, 111, 114, 116, 101, 100, 32, 69, 114, 114, 111, 114], 2⟩,
  ⟨25, [77, 67, 95, 77, 111, 118, 101, 82, 101, 108, 97, 116, 105, 118, 101], [65, 120, 105, 115, 35, 32, 69, 120, 101, 99, 117, 116, 101, 32, 68, 105, 115, 116, 97, 110, 99, 101, 35, 32, 86, 101, 108, 111, 99, 105, 116, 121, 35, 32, 66, 117, 102, 102, 101, 114, 77, 111, 100, 101, 35], [68, 111, 110, 101, 32, 66, 117, 115, 121, 32, 65, 99, 116, 105, 118, 101, 32, 67, 111, 109, 109, 97, 110, 100, 65, 98, 111, 114, 116, 101, 100, 32, 69, 114, 114, 111, 114], 2⟩,
  ⟨26, [77, 67, 95, 77, 111, 118, 101, 65, 100, 100, 105, 116, 105, 118, 101], [65, 120, 105, 115, 35, 32, 69, 120, 101, 99, 117, 116, 101, 32, 68, 105, 115, 116, 97, 110, 99, 101, 35, 32, 86, 101, 108, 111, 99, 105, 116, 121, 35, 32, 66, 117, 102, 102, 101, 114, 77, 111, 100, 101, 35], [68, 111, 110, 101, 32, 66, 117, 115, 121, 32, 65, 99, 116, 105, 118, 101, 32, 67, 111, 109, 109, 97, 110, 100, 65, 98, 111, 114, 116, 101, 100, 32, 69, 114, 114, 111, 114], 2⟩,
  ⟨27, [77, 67, 95, 77, 111, 118, 101, 86, 101, 108, 111, 99, 105, 116, 121], [65, 120, 105, 115, 35, 32, 69, 120, 101, 99, 117, 116, 101, 32, 86, 101, 108, 111, 99, 105, 116, 121, 35], [73, 110, 86, 101, 108, 111, 99, 105, 116, 121, 32, 66, 117, 115, 121, 32, 65, 99, 116, 105, 118, 101, 32, 67, 111, 109, 109, 97, 110, 100, 65, 98, 111, 114, 116, 101, 100, 32, 69, 114, 114, 111, 114], 2⟩,
  ⟨28, [77, 67, 95, 71, 101, 97, 114, 73, 110], [65, 120, 105, 115, 35, 32, 69, 120, 101, 99, 117, 116, 101, 32, 77, 97, 115, 116, 101, 114, 35, 32, 78, 117, 109, 101, 114, 97, 116, 111, 114, 35, 32, 68, 101, 110, 111, 109, 105, 110, 97, 116, 111, 114, 35], [73, 110, 71, 101, 97, 114, 32, 66, 117, 115, 121, 32, 65, 99, 116, 105, 118, 101, 32, 67, 111, 109, 109, 97, 110, 100, 65, 98, 111, 114, 116, 101, 100, 32, 69, 114, 114, 111, 114], 2⟩,
  ⟨29, [77, 67, 95, 82, 101, 115, 101, 116], [65, 120, 105, 115, 35, 32, 69, 120, 101, 99, 117, 116, 101], [68, 111, 110, 101, 32, 69, 114, 114, 111, 114], 1⟩,
  ⟨30, [77, 67, 95, 83, 101, 116, 80, 111, 115, 105, 116, 105, 111, 110], [65, 120, 105, 115, 35, 32, 69, 120, 101, 99, 117, 116, 101, 32, 80, 111, 115, 105, 116, 105, 111, 110, 35], [68, 111, 110, 101, 32, 69, 114, 114, 111, 114], 1⟩,
  ⟨31, [77, 67, 95, 83, 101, 116, 79, 118, 101, 114, 114, 105, 100, 101], [65, 120, 105, 115, 35, 32, 69, 110, 97, 98, 108, 101, 32, 80, 101, 114, 99, 101, 110, 116, 35], [69, 110, 97, 98, 108, 101, 100], 0⟩]
@[simp] def shD (x : Sh) : D := .agg [.int .i64 x.k, .str x.name, .str x.ins, .str x.outs, .int .i64 x.n]
def idxK (w : Tx) : List Sh → Nat → Int
  | [], _ => -1
  | x :: r, i => if x.name = w then i else idxK w r (i + 1)
theorem idxK_range (w : Tx) : ∀ (l : List Sh) (i : Nat), idxK w l i = -1 ∨ (i ≤ idxK w l i ∧ idxK w l i < i + l.length)
  | [], i => .inl rfl
  | x :: r, i => by
    unfold idxK
    split
    · right; simp; omega
    · rcases idxK_range w r (i + 1) with h | h
      · exact .inl h
      · right; simp only [List.length_cons]; omega
def kindN (w : Tx) : Int := if idxK w shT 0 < 0 then 0 else (shT.getD (idxK w shT 0).toNat ⟨0, [], [], [], 0⟩).k
theorem sheets_r : callT ctx 159 [] [] = some (.ret (.d (.list (shT.map shD))), []) := callT_of 120 (by kernel_rfl)
theorem kind1_r (x : Sh) (w : Tx) : callT ctx 161 [.d (shD x), .ptr 0 0 0] [.box [.d (.str w)]] = some (.ret (.d (.bool (decide (x.name = w)))), [(0, .box [.d (.str w)])]) := by
  rw [run161 (by simp)]
  simp [Tryd.f161]
theorem kindIdx_loop (w : Tx) : ∀ (rest pre : List Sh), (pre ++ rest).length < 1000 → ∀ k : Kt,
    denK ctx 160 (.loop (Code.at (codeOf Tryd.f160) [1, 0, 1, 0, 0])) ⟨19, gl0, [(0, true, .d (.list ((pre ++ rest).map shD))), (1, true, .fn 161 [.ptr 0 0 0]), (7, true, .d (.int .i64 (pre ++ rest).length)), (8, true, .d (.int .i64 pre.length))], [⟨0, 0, .box [.d (.str w)]⟩]⟩ k =
      if idxK w rest pre.length < 0 then k (.exit 0) ⟨19, gl0, [(0, true, .d (.list ((pre ++ rest).map shD))), (1, true, .fn 161 [.ptr 0 0 0]), (7, true, .d (.int .i64 (pre ++ rest).length)), (8, true, .d (.int .i64 (pre ++ rest).length)), (9, true, .d (.bool false))], [⟨0, 0, .box [.d (.str w)]⟩]⟩
      else k .ret ⟨19, gl0, [(4, true, .d (.int .i64 (idxK w rest pre.length)))], [⟨0, 0, .box [.d (.str w)]⟩]⟩
  | [], pre, hl, k => by
    rw [denK_loop]
    simp [Tryd.f160, idxK]
  | x :: rest, pre, hl, k => by
    have hs := kind1_r x w
    have ih := kindIdx_loop w rest (pre ++ [x]) (by simpa using hl) k
    have h1 : (pre.length : Int) < pre.length + (rest.length + 1) := by omega
    have h2 : IntKind.i64.wrap ((pre.length : Int) + 1) = pre.length + 1 := wrap_id (by unfold I64; simp at hl; omega)
    have h3 : ¬ ((pre.length : Int) < 0) := by omega
    simp at hs
    rw [denK_loop]
    unfold idxK
    by_cases he : x.name = w
    · simp [he] at hs
      simp [Tryd.f160, h1, h2, h3, hs, he]
    · simp [he] at hs
      simp [Tryd.f160] at ih ⊢
      simp [h1, h2, hs, he, ih]
theorem std_kind_r (w : Tx) : callT ctx 143 [.d (.str w)] [] = some (.ret (.d (.int .i64 (kindN w))), []) := by
  have hl := kindIdx_loop w shT [] (by decide)
  have hi : callT ctx 160 [.d (.list (shT.map shD)), .fn 161 [.ptr 0 0 0]] [.box [.d (.str w)]] = some (.ret (.d (.int .i64 (idxK w shT 0))), [(0, .box [.d (.str w)])]) := by
    rw [run160 (by simp)]
    simp [Tryd.f160] at hl ⊢
    simp [hl]
    intro h
    rcases idxK_range w shT 0 with h1 | h1
    · exact h1.symm
    · omega
  have hr := idxK_range w shT 0
  have hlen : shT.length = 21 := rfl
  have hsh := sheets_r
  unfold kindN
  generalize idxK w shT 0 = j at *
  have hget : ∀ (h : j.toNat < shT.length), shT.getD j.toNat ⟨0, [], [], [], 0⟩ = shT[j.toNat] := fun h => by simp [h]
  generalize shT = T at *
  rw [run143 (by simp)]
  by_cases h : j < 0
  · simp [Tryd.f143, hsh, hi, h]
  · have h0 : 0 ≤ j := by omega
    have h1 : j.toNat < T.length := by omega
    simp [hget h1]
    simp [Tryd.f143, hsh, hi, h, h0, h1]
end Go.Am
end
section
namespace Go.Am
open Go Go.Proofs
variable [Inhabited Mx2]
set_option maxRecDepth 20000
section
variable {L : List Sgn} {s : PS}
def idxS (L : List Sgn) : List Tx → Nat → PS → PM Int
  | [], _, s => .ok (-1) s
  | w :: r, i, s => (isS L w s).bind fun b s => if b = true then .ok (i : Int) s else idxS L r (i + 1) s
theorem isS_same {w : Tx} {b : Bool} {s' : PS} (h : isS L w s = .ok b s') : s' = s := by
  unfold isS nowS at h
  cases hl : L[s.at_]? with
  | none => rw [hl] at h; cases h
  | some t => rw [hl] at h; cases h; rfl
theorem any_idx {β : Type} (f : Bool → PS → Option β) (g : Er → PS → Option β) : ∀ (ws : List Tx) (i : Nat) (s : PS), (idxS L ws i s).el (fun n s => f (decide (0 ≤ n)) s) g = (anyS L ws s).el f g
  | [], i, s => by simp [idxS, anyS]
  | w :: r, i, s => by
    unfold idxS anyS
    cases h : isS L w s with
    | out => rfl
    | bad e s => rfl
    | ok b s' =>
      simp only [PR.bind]
      cases b with
      | true => simp
      | false => simpa using any_idx f g r (i + 1) s'
def pM (L : List Sgn) (s : PS) : List Ent := [⟨0, 0, .box [.d (.list (L.map sgnD)), .d (.int .i64 s.at_), .d (.int .i64 s.deep), .vec 1 0 0 s.vars.length]⟩, ⟨1, 0, .vec 8 (s.vars.map vrD)⟩]
theorem idx_loop : ∀ (rest pre : List Tx) (s : PS), (pre ++ rest).length < 1000000 → ∀ k : Kt, (hp : ∀ env e s, k (.panic 67 (fD e)) ⟨19, gl0, env, pM L s⟩ = badK L e s) →
    denK ctx 115 (.loop (Code.at (codeOf Tryd.f115) [1, 0, 1, 0, 0])) ⟨19, gl0, [(0, true, .d (.list ((pre ++ rest).map .str))), (1, true, .fn (83 + 1000000) [.ptr 0 0 0]), (7, true, .d (.int .i64 (pre ++ rest).length)), (8, true, .d (.int .i64 pre.length))], pM L s⟩ k =
      (idxS L rest pre.length s).el (fun n s => if n = -1 then k (.exit 0) ⟨19, gl0, [(0, true, .d (.list ((pre ++ rest).map .str))), (1, true, .fn (83 + 1000000) [.ptr 0 0 0]), (7, true, .d (.int .i64 (pre ++ rest).length)), (8, true, .d (.int .i64 (pre ++ rest).length)), (9, true, .d (.bool false))], pM L s⟩
        else k .ret ⟨19, gl0, [(4, true, .d (.int .i64 n))], pM L s⟩) (badK L)
  | [], pre, s, hl, k, hp => by
    rw [denK_loop]
    simp [Tryd.f115, idxS, pM]
  | w :: rest, pre, s, hl, k, hp => by
    have ih := fun s => idx_loop rest (pre ++ [w]) s (by simpa using hl) k hp
    have h1 : (pre.length : Int) < pre.length + (rest.length + 1) := by omega
    have h2 : IntKind.i64.wrap ((pre.length : Int) + 1) = pre.length + 1 := wrap_id (by unfold I64; simp at hl; omega)
    have h3 : ¬ ((pre.length : Int) = -1) := by omega
    rw [denK_loop]
    unfold idxS
    simp [Tryd.f115, pM, badKB] at ih hp ⊢
    simp [h1, h2, h3, is_r, pC2B, badKB, hp, ih]
theorem idxF_r (ws : List Tx) (hl : ws.length < 1000000) : callT ctx 115 [.d (.list (ws.map .str)), .fn (83 + 1000000) [.ptr 0 0 0]] [.box [.d (.list (L.map sgnD)), .d (.int .i64 s.at_), .d (.int .i64 s.deep), .vec 1 0 0 s.vars.length], .vec 8 (s.vars.map vrD)] = (idxS L ws 0 s).el (fun n s => some (.ret (.d (.int .i64 n)), pC2 L s)) (badK L) := by
  have h := fun k hp => idx_loop (L := L) ws [] s (by simpa using hl) k hp
  rw [run115 (by simp)]
  simp [Tryd.f115, pM, badKB, pC2B] at h ⊢
  rw [h]
  · simp
    congr 1
    funext n s
    split <;> simp_all
  · intro env e s; simp
theorem contains_r (ws : List Tx) (hl : ws.length < 1000000) : callT ctx 82 [.d (.list (ws.map .str)), .fn (83 + 1000000) [.ptr 0 0 0]] [.box [.d (.list (L.map sgnD)), .d (.int .i64 s.at_), .d (.int .i64 s.deep), .vec 1 0 0 s.vars.length], .vec 8 (s.vars.map vrD)] = (anyS L ws s).el (fun b s => some (.ret (.d (.bool b)), pC2 L s)) (badK L) := by
  have h := idxF_r (L := L) (s := s) ws hl
  rw [← any_idx _ _ ws 0 s]
  rw [run82 (by simp)]
  simp at h
  simp [Tryd.f82, h, pC2B, badKB]
end
theorem idxW_loop (w : Tx) : ∀ (rest pre : List Tx), (pre ++ rest).length < 1000 → ∀ k : Kt,
    denK ctx 139 (.loop (Code.at (codeOf Tryd.f139) [1, 0, 1, 0, 0])) ⟨19, gl0, [(0, true, .d (.list ((pre ++ rest).map .str))), (1, true, .d (.str w)), (7, true, .d (.int .i64 (pre ++ rest).length)), (8, true, .d (.int .i64 pre.length))], []⟩ k =
      if idxT w rest pre.length < 0 then k (.exit 0) ⟨19, gl0, [(0, true, .d (.list ((pre ++ rest).map .str))), (1, true, .d (.str w)), (7, true, .d (.int .i64 (pre ++ rest).length)), (8, true, .d (.int .i64 (pre ++ rest).length)), (9, true, .d (.bool false))], []⟩
      else k .ret ⟨19, gl0, [(4, true, .d (.int .i64 (idxT w rest pre.length)))], []⟩
  | [], pre, hl, k => by
    rw [denK_loop]
    simp [Tryd.f139, idxT]
  | x :: rest, pre, hl, k => by
    have ih := idxW_loop w rest (pre ++ [x]) (by simpa using hl) k
    have h1 : (pre.length : Int) < pre.length + (rest.length + 1) := by omega
    have h2 : IntKind.i64.wrap ((pre.length : Int) + 1) = pre.length + 1 := wrap_id (by unfold I64; simp at hl; omega)
    have h3 : ¬ ((pre.length : Int) < 0) := by omega
    rw [denK_loop]
    unfold idxT
    by_cases he : w = x
    · simp [Tryd.f139, h1, h2, h3, he]
    · simp [Tryd.f139] at ih ⊢
      simp [h1, h2, he, ih]
theorem idxT_range (w : Tx) : ∀ (l : List Tx) (i : Nat), idxT w l i = -1 ∨ (i ≤ idxT w l i ∧ idxT w l i < i + l.length)
  | [], i => .inl rfl
  | x :: r, i => by
    unfold idxT
    split
    · right; simp; omega
    · rcases idxT_range w r (i + 1) with h | h
      · exact .inl h
      · right; simp only [List.length_cons]; omega
theorem index_r (w : Tx) (l : List Tx) (hl : l.length < 1000) : callT ctx 139 [.d (.list (l.map .str)), .d (.str w)] [] = some (.ret (.d (.int .i64 (idxT w l 0))), []) := by
  have h := idxW_loop w l [] (by simpa using hl)
  have hr := idxT_range w l 0
  rw [run139 (by simp)]
  simp [Tryd.f139] at h ⊢
  simp [h]
  intro h
  omega
theorem operator_r (w : Tx) : callT ctx 176 [.d (.str w)] [] = some (.ret (.d (.int .i64 (opI w))), []) := by
  have h := index_r w opT (by decide)
  have hr := idxT_range w opT 0
  have hlen : opT.length = 14 := rfl
  have w1 : IntKind.i64.wrap (8 + idxT w opT 0) = 8 + idxT w opT 0 := wrap_id (by unfold I64; omega)
  rw [run176 (by simp)]
  unfold opI
  generalize hj : idxT w opT 0 = j at *
  simp only [opT, List.map_cons, List.map_nil] at h
  have h14 : List.range' 0 14 = [0, 1, 2, 3, 4, 5, 6, 7, 8, 9, 10, 11, 12, 13] := rfl
  simp [Tryd.f176, h14, h, w1]
theorem levels_r : callT ctx 174 [] [] = some (.ret (.d (.list (lvT.map fun l => .list (l.map .str)))), []) := callT_of 40 (by kernel_rfl)
section
variable {L : List Sgn} {s : PS} (hL : L.length < 1000000)
include hL
def kdD (k : Kd) : D := .agg [.int .i64 k.at_.kind, .str k.at_.text, .int .i64 k.at_.n, .int .i64 k.at_.line, .int .i64 k.at_.col, .int .i64 k.kind, .bool k.arr, .int .i64 k.lo, .int .i64 k.hi]
theorem array_r (t : Sgn) : callT ctx 142 [.ptr 0 0 0, .d (.agg [.int .i64 t.kind, .str t.text, .int .i64 t.n, .int .i64 t.line, .int .i64 t.col, .int .i64 0, .bool false, .int .i64 0, .int .i64 0])] [.box [.d (.list (L.map sgnD)), .d (.int .i64 s.at_), .d (.int .i64 s.deep), .vec 1 0 0 s.vars.length], .vec 8 (s.vars.map vrD)] = (arrayS L ⟨t, 0, false, 0, 0⟩ s).el (fun k s => some (.ret (.d (kdD k)), pC2 L s)) (badK L) := by
  rw [run142 (by simp)]
  simp [Tryd.f142, drwK_end, must_r hL, kind_r hL, plain_r hL, now_r, fail_r, failS, arrayS, kdD, pC2B, badKB]
theorem typed_r : callT ctx 113 [.ptr 0 0 0] [.box [.d (.list (L.map sgnD)), .d (.int .i64 s.at_), .d (.int .i64 s.deep), .vec 1 0 0 s.vars.length], .vec 8 (s.vars.map vrD)] = (typedS L kindN s).el (fun k s => some (.ret (.d (kdD k)), pC2 L s)) (badK L) := by
  have ha := fun s t => array_r (L := L) (s := s) hL t
  rw [run113 (by simp)]
  simp [Tryd.f113, drwK_end, may_r hL, kind_r hL, plain_r hL, now_r, std_kind_r, ha, fail_r, failS, typedS, kdD, pC2B, badKB]
end
end Go.Am
end
section
namespace Go.Am
open Go Go.Proofs
variable [Inhabited Mx2]
set_option maxRecDepth 20000
section
variable {L : List Sgn}
theorem vars_loop (kd : Kd) (sec init : Int) (s : PS) (v5 : Nat) (c5 : Cont) : ∀ (rest pre : List Sgn) (v v1 v6 : Nat) (c6 : Cont), s.vars.length + (pre ++ rest).length ≤ 64 → ∀ (k : Kt) (R : Ans)
    (hx : ∀ v1 v6 c6, k (.exit 2) ⟨94, gl0, [(0, true, .ptr 0 0 0), (1, true, .d (.int .i64 sec)), (6, true, .ptr 400 1 0), (7, true, .d (.int .i64 init)), (63, true, .vec 300 v 0 (pre ++ rest).length), (64, true, .d (.int .i64 (pre ++ rest).length)), (65, true, .d (.int .i64 (pre ++ rest).length)), (66, true, .d (.bool false))],
      [⟨0, 0, .box [.d (.list (L.map sgnD)), .d (.int .i64 s.at_), .d (.int .i64 s.deep), .vec 1 v1 0 (s.vars ++ (pre ++ rest).map (vrOf kd sec init)).length]⟩, ⟨1, v1, .vec 8 ((s.vars ++ (pre ++ rest).map (vrOf kd sec init)).map vrD)⟩, ⟨300, v, .vec 5 ((pre ++ rest).map sgnD)⟩, ⟨350, v5, c5⟩, ⟨400, 1, .box [.d (.int .i64 kd.at_.kind), .d (.str kd.at_.text), .d (.int .i64 kd.at_.n), .d (.int .i64 kd.at_.line), .d (.int .i64 kd.at_.col), .d (.int .i64 kd.kind), .d (.bool kd.arr), .d (.int .i64 kd.lo), .d (.int .i64 kd.hi)]⟩, ⟨650, v6, c6⟩]⟩ = R),
    denK ctx 81 (.loop (Code.at (codeOf Tryd.f81) [1, 1, 1, 1, 1, 1, 1, 1, 0, 0])) ⟨94, gl0, [(0, true, .ptr 0 0 0), (1, true, .d (.int .i64 sec)), (6, true, .ptr 400 1 0), (7, true, .d (.int .i64 init)), (63, true, .vec 300 v 0 (pre ++ rest).length), (64, true, .d (.int .i64 (pre ++ rest).length)), (65, true, .d (.int .i64 pre.length))],
      [⟨0, 0, .box [.d (.list (L.map sgnD)), .d (.int .i64 s.at_), .d (.int .i64 s.deep), .vec 1 v1 0 (s.vars ++ pre.map (vrOf kd sec init)).length]⟩, ⟨1, v1, .vec 8 ((s.vars ++ pre.map (vrOf kd sec init)).map vrD)⟩, ⟨300, v, .vec 5 ((pre ++ rest).map sgnD)⟩, ⟨350, v5, c5⟩, ⟨400, 1, .box [.d (.int .i64 kd.at_.kind), .d (.str kd.at_.text), .d (.int .i64 kd.at_.n), .d (.int .i64 kd.at_.line), .d (.int .i64 kd.at_.col), .d (.int .i64 kd.kind), .d (.bool kd.arr), .d (.int .i64 kd.lo), .d (.int .i64 kd.hi)]⟩, ⟨650, v6, c6⟩]⟩ k = R
  | [], pre, v, v1, v6, c6, hl, k, R, hx => by
    simp at hx
    rw [denK_loop]
    simp [Tryd.f81, hx]
  | t :: rest, pre, v, v1, v6, c6, hl, k, R, hx => by
    have ih := fun v1 v6 c6 => vars_loop kd sec init s v5 c5 rest (pre ++ [t]) v v1 v6 c6 (by simpa using hl) k R (fun v1 v6 c6 => by have := hx v1 v6 c6; simp at this; simpa using this)
    have h1 : (pre.length : Int) < pre.length + (rest.length + 1) := by omega
    have h2 : IntKind.i64.wrap ((pre.length : Int) + 1) = pre.length + 1 := wrap_id (by unfold I64; simp at hl; omega)
    have h3 : (s.vars.length + pre.length + 1) * 72 ≤ 140737488355328 ∧ s.vars.length + pre.length + 1 ≤ 4611686018427387904 := by simp at hl; omega
    rw [denK_loop]
    simp [Tryd.f81, vrD, vrC, vrOf, Nat.add_assoc] at ih h3 ⊢
    simp [h1, h2, h3, drwK_end, ih, Nat.add_assoc]
def dM (L : List Sgn) (s : PS) (v : Nat) (c : Cont) (v2 : Nat) (c2 : Cont) (e4 e6 : Ent) : List Ent :=
  [⟨0, 0, .box [.d (.list (L.map sgnD)), .d (.int .i64 s.at_), .d (.int .i64 s.deep), .vec 1 0 0 s.vars.length]⟩, ⟨1, 0, .vec 8 (s.vars.map vrD)⟩, ⟨300, v, c⟩, ⟨350, v2, c2⟩, e4, e6]
def pC3 (L : List Sgn) (s : PS) : List (Nat × Cont) := [(0, .box [.d (.list (L.map sgnD)), .d (.int .i64 s.at_), .d (.int .i64 s.deep), .vec 1 1 0 s.vars.length]), (1, .vec 8 (s.vars.map vrD))]
def badK1 (L : List Sgn) (e : Er) (s : PS) : Ans := some (.panic 67 (fD e), pC3 L s)
theorem names_loop (hL : L.length < 1000000) (sec : Int) (k : Kt) (R : List Sgn → PS → Ans) (B : Er → PS → Ans)
    (hp : ∀ env e s v c v2 c2, k (.panic 67 (fD e)) ⟨94, gl0, env, dM L s v c v2 c2 ⟨400, 0, .dead⟩ ⟨650, 0, .dead⟩⟩ = B e s)
    (hx : ∀ l s v v2 c2, Le (R l s) (k (.exit 0) ⟨94, gl0, [(0, true, .ptr 0 0 0), (1, true, .d (.int .i64 sec)), (4, true, .vec 300 v 0 l.length), (31, true, .d (.bool true))], dM L s v (.vec 5 (l.map sgnD)) v2 c2 ⟨400, 0, .dead⟩ ⟨650, 0, .dead⟩⟩)) :
    ∀ (f : Nat) (l : List Sgn) (s : PS) (v v2 : Nat) (c2 : Cont) (X : Env), (X = [] ∨ X = [(31, true, .d (.bool false))]) →
    Le ((namesS L f l s).el R B) (denK ctx 81 (.loop (Code.at (codeOf Tryd.f81) [1, 0, 0, 0])) ⟨94, gl0, [(0, true, .ptr 0 0 0), (1, true, .d (.int .i64 sec)), (4, true, .vec 300 v 0 l.length)] ++ X, dM L s v (.vec 5 (l.map sgnD)) v2 c2 ⟨400, 0, .dead⟩ ⟨650, 0, .dead⟩⟩ k)
  | 0, l, s, v, v2, c2, X, hX => Le.none
  | f + 1, l, s, v, v2, c2, X, hX => by
    have ih := fun l s v v2 c2 => names_loop hL sec k R B hp hx f l s v v2 c2 _ (.inr rfl)
    have hk := kind_r (L := L) (s := s) hL 1
    have hm := fun s => may_r (L := L) (s := s) hL [44]
    rw [denK_loop]
    unfold namesS
    cases hks : kindS L 1 s with
    | out => exact Le.none
    | bad e s1 =>
      apply Le.of_eq
      simp [hks, badKB] at hk
      simp [Tryd.f81, dM, badKB] at hp ⊢
      rcases hX with rfl | rfl <;> simp [hk, hp, badKB]
    | ok t s1 =>
      simp only [bind_ok]
      simp [hks, pC2B] at hk
      by_cases h64 : 64 < s1.vars.length + (l.length + 1)
      · by_cases hb : l.length < 100000 ∧ s1.vars.length < 100000
        · apply Le.of_eq
          have h2 : IntKind.i64.wrap ((s1.vars.length : Int) + (l.length + 1)) = s1.vars.length + (l.length + 1) := wrap_id (by unfold I64; omega)
          have h3 : (l.length + 1) * 48 ≤ 140737488355328 ∧ l.length ≤ 4611686018427387903 := by omega
          have h4 : (64 : Int) < s1.vars.length + (l.length + 1) := by omega
          simp [Tryd.f81, dM, badKB] at hp ⊢
          rcases hX with rfl | rfl <;> simp [h64, hb, hk, h2, h3, h4, hp, fail_r, failS, badKB]
        · simp only [if_pos h64, if_neg hb]
          exact Le.none
      · have h2 : IntKind.i64.wrap ((s1.vars.length : Int) + (l.length + 1)) = s1.vars.length + (l.length + 1) := wrap_id (by unfold I64; omega)
        have h3 : (l.length + 1) * 48 ≤ 140737488355328 ∧ l.length ≤ 4611686018427387903 := by omega
        have h4 : ¬ ((64 : Int) < s1.vars.length + (l.length + 1)) := by omega
        simp only [if_neg h64]
        have ih := fun s v v2 c2 => ih (l ++ [t]) s v v2 c2
        have hx := fun s v v2 c2 => hx (l ++ [t]) s v v2 c2
        simp [Tryd.f81, dM, badKB] at hp hx ih hm ⊢
        rcases hX with rfl | rfl <;> simp [hk, h2, h3, h4, hp, hm, pC2B, badKB] <;>
        exact Le.el (fun b s => Le.ite (fun _ => ih _ _ _ _) (fun _ => hx _ _ _ _)) (fun e s => Le.refl _)
theorem declared_le (hL : L.length < 1000000) (f : Nat) (sec : Int) (s : PS) : Le ((declaredS L kindN f sec s).el (fun _ s => some (.ret (.tup []), pC3 L s)) (badK1 L))
    (callT ctx 81 [.ptr 0 0 0, .d (.int .i64 sec)] [.box [.d (.list (L.map sgnD)), .d (.int .i64 s.at_), .d (.int .i64 s.deep), .vec 1 0 0 s.vars.length], .vec 8 (s.vars.map vrD)]) := by
  have hn := fun k R B hp hx v v2 c2 => names_loop hL sec k R B hp hx f [] s v v2 c2 [] (.inl rfl)
  have hv := fun kd init s v5 c5 rest v v6 c6 hl k R hx => vars_loop (L := L) kd sec init s v5 c5 rest [] v 0 v6 c6 hl k R hx
  rw [run81 (by simp)]
  unfold declaredS
  simp only [el_bind]
  simp [Tryd.f81, dM, badKB] at hn hv ⊢
  refine hn _ _ _ ?_ ?_ _ _ _
  · intro env e s v c v2 c2
    simp [badK1, pC3]
  · intro l s v v2 c2
    simp [must_r hL, typed_r hL, may_r hL, value_r hL, fail_r, failS, initS, kdD, pC2B, badKB, pC3, badK1, drwK_end, or_assoc]
    have leaf : ∀ (kd : Kd) (init : Int) (s : PS) (v5 : Nat) (c5 : Cont) (v v6 : Nat) (c6 : Cont), s.vars.length + l.length ≤ 64 → _ := fun kd init s v5 c5 v v6 c6 hl => hv kd init s v5 c5 l v v6 c6 hl
    refine Le.el (fun _ s => Le.el (fun kd s => Le.el (fun b s => Le.ite (fun _ => Le.el (fun p s => Le.ite (fun _ => Le.refl _) fun _ => Le.el (fun _ s => ?_) fun _ _ => Le.refl _) fun _ _ => Le.refl _) (fun _ => Le.el (fun _ s => ?_) fun _ _ => Le.refl _)) fun _ _ => Le.refl _) fun _ _ => Le.refl _) fun _ _ => Le.refl _
    · by_cases hl : s.vars.length + l.length ≤ 64
      · rw [if_pos hl]
        apply Le.of_eq
        symm
        refine leaf kd _ s _ _ _ _ _ hl _ _ ?_
        intro v1 v6 c6
        simp [pC3, badK1]
      · rw [if_neg hl]; exact Le.none
    · by_cases hl : s.vars.length + l.length ≤ 64
      · rw [if_pos hl]
        apply Le.of_eq
        symm
        refine leaf kd _ s _ _ _ _ _ hl _ _ ?_
        intro v1 v6 c6
        simp [pC3, badK1]
      · rw [if_neg hl]; exact Le.none
end
end Go.Am
end
section
namespace Go.Am
open Go Go.Proofs
variable [Inhabited Mx2]
set_option maxRecDepth 20000
def pMv (L : List Sgn) (s : PS) (v : Nat) : List Ent := [⟨0, 0, .box [.d (.list (L.map sgnD)), .d (.int .i64 s.at_), .d (.int .i64 s.deep), .vec 1 v 0 s.vars.length]⟩, ⟨1, v, .vec 8 (s.vars.map vrD)⟩]
section
variable {L : List Sgn}
theorem lines_loop (hL : L.length < 1000000) (sec : Int) (k : Kt) (R : PS → Ans) (B : Er → PS → Ans)
    (hp : ∀ env e s v, k (.panic 67 (fD e)) ⟨18, gl0, env, pMv L s v⟩ = B e s)
    (hx : ∀ s v, Le (R s) (k (.exit 3) ⟨18, gl0, [(0, true, .ptr 0 0 0), (2, true, .d (.int .i64 sec)), (14, true, .d (.bool false))], pMv L s v⟩)) :
    ∀ (f : Nat) (s : PS) (v : Nat) (X : Env), (X = [] ∨ X = [(3, true, .d (.bool true))]) →
    Le ((linesS L kindN sec f s).el (fun _ s => R s) B) (denK ctx 51 (.loop (Code.at (codeOf Tryd.f51) [0, 0, 0, 1, 1, 0, 0])) ⟨18, gl0, [(0, true, .ptr 0 0 0), (2, true, .d (.int .i64 sec))] ++ X, pMv L s v⟩ k)
  | 0, s, v, X, hX => Le.none
  | f + 1, s, v, X, hX => by
    have ih := fun s v => lines_loop hL sec k R B hp hx f s v [] (.inl rfl)
    have hm := may_r (L := L) (s := s) hL [69, 78, 68, 95, 86, 65, 82]
    rw [denK_loop]
    unfold linesS
    cases hms : mayS L [69, 78, 68, 95, 86, 65, 82] s with
    | out => exact Le.none
    | bad e s1 =>
      apply Le.of_eq
      simp [hms, badKB] at hm
      simp [Tryd.f51, pMv] at hp ⊢
      rcases hX with rfl | rfl <;> simp [hm, hp]
    | ok b s1 =>
      simp only [bind_ok]
      simp [hms, pC2B] at hm
      cases b with
      | true =>
        have hx := hx s1
        simp [Tryd.f51, pMv] at hx ⊢
        rcases hX with rfl | rfl <;> simpa [hm] using hx _
      | false =>
        have hd := declared_le hL f sec s1
        simp only [Bool.false_eq_true, if_false]
        cases hds : declaredS L kindN f sec s1 with
        | out => exact Le.none
        | bad e s2 =>
          apply Le.of_eq
          simp only [hds, el_bad, badK1, pC3] at hd
          have hd := hd _ rfl
          simp [Tryd.f51, pMv] at hp hd ⊢
          rcases hX with rfl | rfl <;> simp [hm, hp, hd]
        | ok u s2 =>
          have ih := ih s2
          simp only [hds, el_ok, pC3] at hd
          have hd := hd _ rfl
          simp only [bind_ok]
          simp [Tryd.f51, pMv] at ih hd ⊢
          rcases hX with rfl | rfl <;> simpa [hm, hd] using ih _
theorem sections_loop (hL : L.length < 1000000) (k : Kt) (R : PS → Ans) (B : Er → PS → Ans)
    (hp : ∀ env e s v, k (.panic 67 (fD e)) ⟨18, gl0, env, pMv L s v⟩ = B e s)
    (hx : ∀ env s v, Le (R s) (k .ret ⟨18, gl0, env, pMv L s v⟩)) :
    ∀ (f : Nat) (s : PS) (v : Nat) (X : Env), (X = [] ∨ ∃ sec : Int, X = [(2, true, .d (.int .i64 sec)), (14, true, .d (.bool false))]) →
    Le ((sectionsS L kindN f s).el (fun _ s => R s) B) (denK ctx 51 (.loop (Code.at (codeOf Tryd.f51) [0, 0])) ⟨18, gl0, [(0, true, .ptr 0 0 0)] ++ X, pMv L s v⟩ k)
  | 0, s, v, X, hX => Le.none
  | f + 1, s, v, X, hX => by
    have ih := fun sec s v => sections_loop hL k R B hp hx f s v _ (.inr ⟨sec, rfl⟩)
    have hl := fun sec k R B hp hx s v X hX => lines_loop (L := L) hL sec k R B hp hx f s v X hX
    have hm := fun s w => may_r (L := L) (s := s) hL w
    rw [denK_loop]
    unfold sectionsS sectionS
    simp only [el_bind]
    simp [Tryd.f51, pMv] at hp hl ih hx ⊢
    rcases hX with rfl | ⟨sec, rfl⟩
    all_goals
      simp [hm, hp, pC2B, badKB]
      refine Le.el (fun b s => Le.ite (fun hb => ?_) fun hb => Le.el (fun b s => Le.ite (fun hb => ?_) fun hb => Le.el (fun b s => Le.ite (fun hb => ?_) fun hb => ?_) fun e s => Le.refl _) fun e s => Le.refl _) fun e s => Le.refl _
      · exact (hl 0 _ _ _ (fun env e s v => by simp [hp]) (fun s v => by simpa using ih 0 s v) _ _).2
      · exact (hl 1 _ _ _ (fun env e s v => by simp [hp]) (fun s v => by simpa using ih 1 s v) _ _).1
      · exact (hl 2 _ _ _ (fun env e s v => by simp [hp]) (fun s v => by simpa using ih 2 s v) _ _).1
      · exact hx _ _ _
theorem sections_le (hL : L.length < 1000000) (f : Nat) (s : PS) : Le ((sectionsS L kindN f s).el (fun _ s => some (.ret (.tup []), pC3 L s)) (badK1 L))
    (callT ctx 51 [.ptr 0 0 0] [.box [.d (.list (L.map sgnD)), .d (.int .i64 s.at_), .d (.int .i64 s.deep), .vec 1 0 0 s.vars.length], .vec 8 (s.vars.map vrD)]) := by
  have hl := fun k R B hp hx => sections_loop hL k R B hp hx f s 0 [] (.inl rfl)
  rw [run51 (by simp)]
  simp [Tryd.f51, pMv] at hl ⊢
  refine hl _ (fun s => some (.ret (.tup []), pC3 L s)) _ ?_ ?_
  · intro env e s v
    simp [badK1, pC3]
  · intro env s v
    simp [pC3]
    exact Le.refl _
end
end Go.Am
end
section
namespace Go.Am
open Go
def exo : Ex → Int | .mk a _ _ _ _ _ => a
def exn : Ex → Int | .mk _ a _ _ _ _ => a
def exa : Ex → Tx | .mk _ _ a _ _ _ => a
def exf : Ex → Tx | .mk _ _ _ a _ _ => a
def exs : Ex → List Ex | .mk _ _ _ _ a _ => a
def exl : Ex → Int | .mk _ _ _ _ _ a => a
@[simp] theorem exo_mk {a b c d e f} : exo (.mk a b c d e f) = a := rfl
@[simp] theorem exn_mk {a b c d e f} : exn (.mk a b c d e f) = b := rfl
@[simp] theorem exa_mk {a b c d e f} : exa (.mk a b c d e f) = c := rfl
@[simp] theorem exf_mk {a b c d e f} : exf (.mk a b c d e f) = d := rfl
@[simp] theorem exs_mk {a b c d e f} : exs (.mk a b c d e f) = e := rfl
@[simp] theorem exl_mk {a b c d e f} : exl (.mk a b c d e f) = f := rfl
theorem exC_A (x : Ex) : exC x = [.int .i64 (exo x), .int .i64 (exn x), .str (exa x), .str (exf x), .list ((exs x).map exD), .int .i64 (exl x)] := by cases x; simp [exC, exDs_eq]
theorem exD_A (x : Ex) : exD x = .agg [.int .i64 (exo x), .int .i64 (exn x), .str (exa x), .str (exf x), .list ((exs x).map exD), .int .i64 (exl x)] := by rw [exD_C, exC_A]
def smo : Sm → Int | .mk a _ _ _ _ _ _ _ _ => a
def sma : Sm → Tx | .mk _ a _ _ _ _ _ _ _ => a
def smt : Sm → Ex | .mk _ _ a _ _ _ _ _ _ => a
def smv : Sm → Ex | .mk _ _ _ a _ _ _ _ _ => a
def smc : Sm → List Ex | .mk _ _ _ _ a _ _ _ _ => a
def smlb : Sm → List (List Int) | .mk _ _ _ _ _ a _ _ _ => a
def smf : Sm → List Tx | .mk _ _ _ _ _ _ a _ _ => a
def smb : Sm → List (List Sm) | .mk _ _ _ _ _ _ _ a _ => a
def sml : Sm → Int | .mk _ _ _ _ _ _ _ _ a => a
@[simp] theorem smo_mk {a b c d e f g h i} : smo (.mk a b c d e f g h i) = a := rfl
@[simp] theorem sma_mk {a b c d e f g h i} : sma (.mk a b c d e f g h i) = b := rfl
@[simp] theorem smt_mk {a b c d e f g h i} : smt (.mk a b c d e f g h i) = c := rfl
@[simp] theorem smv_mk {a b c d e f g h i} : smv (.mk a b c d e f g h i) = d := rfl
@[simp] theorem smc_mk {a b c d e f g h i} : smc (.mk a b c d e f g h i) = e := rfl
@[simp] theorem smlb_mk {a b c d e f g h i} : smlb (.mk a b c d e f g h i) = f := rfl
@[simp] theorem smf_mk {a b c d e f g h i} : smf (.mk a b c d e f g h i) = g := rfl
@[simp] theorem smb_mk {a b c d e f g h i} : smb (.mk a b c d e f g h i) = h := rfl
@[simp] theorem sml_mk {a b c d e f g h i} : sml (.mk a b c d e f g h i) = i := rfl
def bkD (l : List Sm) : D := .list (l.map smD)
theorem smD_A (x : Sm) : smD x = .agg [.int .i64 (smo x), .str (sma x),
    .int .i64 (exo (smt x)), .int .i64 (exn (smt x)), .str (exa (smt x)), .str (exf (smt x)), .list ((exs (smt x)).map exD), .int .i64 (exl (smt x)),
    .int .i64 (exo (smv x)), .int .i64 (exn (smv x)), .str (exa (smv x)), .str (exf (smv x)), .list ((exs (smv x)).map exD), .int .i64 (exl (smv x)),
    .list ((smc x).map exD), .list ((smlb x).map lbD), .list ((smf x).map .str), .list ((smb x).map bkD), .int .i64 (sml x)] := by
  cases x
  simp [smD, exC_A, exDs_eq, bksD_eq, bkD]
end Go.Am
end
section
namespace Go.Am
open Go
section
variable {ε σ α β : Type}
def PR.le (r r' : PR ε σ α) : Prop := r = .out ∨ r = r'
theorem PR.le.refl (r : PR ε σ α) : r.le r := .inr rfl
theorem PR.le.out (r : PR ε σ α) : PR.le .out r := .inl rfl
theorem PR.le.bind {r r' : PR ε σ α} {k k' : α → σ → PR ε σ β} (h : r.le r') (hk : ∀ a s, (k a s).le (k' a s)) : (r.bind k).le (r'.bind k') := by
  rcases h with h | h
  · subst h; exact .inl rfl
  · subst h
    cases r with
    | ok a s => exact hk a s
    | bad e s => exact .inr rfl
    | out => exact .inl rfl
theorem PR.le.ite {c : Prop} [Decidable c] {a b a' b' : PR ε σ α} (h : a.le a') (h' : b.le b') : (if c then a else b).le (if c then a' else b') := by
  split
  · exact h
  · exact h'
theorem PR.le.el {r r' : PR ε σ α} {γ : Type} {f : α → σ → Option γ} {g : ε → σ → Option γ} (h : r.le r') : Le (r.el f g) (r'.el f g) := by
  rcases h with h | h
  · subst h; exact Le.none
  · subst h; exact Le.refl _
end
section
variable (L : List Sgn)
structure MonE (f g : Nat) : Prop where
  level : ∀ n s, (levelS L f n s).le (levelS L g n s)
  loop : ∀ n x s, (levelL L f n x s).le (levelL L g n x s)
  unary : ∀ s, (unaryS L f s).le (unaryS L g s)
  unop : ∀ op t s, (unopS L f op t s).le (unopS L g op t s)
  expr : ∀ s, (exprS L f s).le (exprS L g s)
  index : ∀ s, (indexS L f s).le (indexS L g s)
  factor : ∀ s, (factorS L f s).le (factorS L g s)
theorem monE : ∀ f g, f ≤ g → MonE L f g
  | 0, g, _ => by
    refine ⟨?_, ?_, ?_, ?_, ?_, ?_, ?_⟩ <;> intros
    · unfold levelS; exact PR.le.out _
    · unfold levelL; exact PR.le.out _
    · unfold unaryS; exact PR.le.out _
    · unfold unopS; exact PR.le.out _
    · unfold exprS; exact PR.le.out _
    · unfold indexS; exact PR.le.out _
    · unfold factorS; exact PR.le.out _
  | f + 1, 0, h => by omega
  | f + 1, g + 1, h => by
    have ih := monE f g (by omega)
    have i1 := ih.level
    have i2 := ih.loop
    have i3 := ih.unary
    have i4 := ih.unop
    have i5 := ih.expr
    have i6 := ih.index
    have i7 := ih.factor
    refine ⟨?_, ?_, ?_, ?_, ?_, ?_, ?_⟩ <;> intros
    · unfold levelS
      repeat' with_reducible (first | exact i1 _ _ | exact i2 _ _ _ | exact i3 _ | exact i4 _ _ _ | exact i5 _ | exact i6 _ | exact i7 _ | exact PR.le.refl _ | refine PR.le.bind ?_ (fun _ _ => ?_) | refine PR.le.ite ?_ ?_)
    · unfold levelL
      repeat' with_reducible (first | exact i1 _ _ | exact i2 _ _ _ | exact i3 _ | exact i4 _ _ _ | exact i5 _ | exact i6 _ | exact i7 _ | exact PR.le.refl _ | refine PR.le.bind ?_ (fun _ _ => ?_) | refine PR.le.ite ?_ ?_)
    · unfold unaryS
      repeat' with_reducible (first | exact i1 _ _ | exact i2 _ _ _ | exact i3 _ | exact i4 _ _ _ | exact i5 _ | exact i6 _ | exact i7 _ | exact PR.le.refl _ | refine PR.le.bind ?_ (fun _ _ => ?_) | refine PR.le.ite ?_ ?_)
    · unfold unopS
      repeat' with_reducible (first | exact i1 _ _ | exact i2 _ _ _ | exact i3 _ | exact i4 _ _ _ | exact i5 _ | exact i6 _ | exact i7 _ | exact PR.le.refl _ | refine PR.le.bind ?_ (fun _ _ => ?_) | refine PR.le.ite ?_ ?_)
    · unfold exprS
      repeat' with_reducible (first | exact i1 _ _ | exact i2 _ _ _ | exact i3 _ | exact i4 _ _ _ | exact i5 _ | exact i6 _ | exact i7 _ | exact PR.le.refl _ | refine PR.le.bind ?_ (fun _ _ => ?_) | refine PR.le.ite ?_ ?_)
    · unfold indexS
      repeat' with_reducible (first | exact i1 _ _ | exact i2 _ _ _ | exact i3 _ | exact i4 _ _ _ | exact i5 _ | exact i6 _ | exact i7 _ | exact PR.le.refl _ | refine PR.le.bind ?_ (fun _ _ => ?_) | refine PR.le.ite ?_ ?_)
    · unfold factorS
      repeat' with_reducible (first | exact i1 _ _ | exact i2 _ _ _ | exact i3 _ | exact i4 _ _ _ | exact i5 _ | exact i6 _ | exact i7 _ | exact PR.le.refl _ | refine PR.le.bind ?_ (fun _ _ => ?_) | refine PR.le.ite ?_ ?_)
structure MonS (f g : Nat) : Prop where
  block : ∀ w s, (blockS L f w s).le (blockS L g w s)
  blockL : ∀ w l s, (blockL L f w l s).le (blockL L g w l s)
  stmt : ∀ s, (stmtS L f s).le (stmtS L g s)
  opn : ∀ s, (openS L f s).le (openS L g s)
  branches : ∀ s, (branchesS L f s).le (branchesS L g s)
  branchesL : ∀ c l s, (branchesL L f c l s).le (branchesL L g c l s)
  cases : ∀ s, (casesS L f s).le (casesS L g s)
  casesL : ∀ v c l s, (casesL L f v c l s).le (casesL L g v c l s)
  caseL : ∀ l s, (caseL L f l s).le (caseL L g l s)
  counted : ∀ s, (countedS L f s).le (countedS L g s)
  call : ∀ n s, (callS L f n s).le (callS L g n s)
  callL : ∀ n c l s, (callL L f n c l s).le (callL L g n c l s)
theorem monLabels : ∀ f g l s, f ≤ g → (labelsS L f l s).le (labelsS L g l s)
  | 0, g, l, s, _ => by unfold labelsS; exact PR.le.out _
  | f + 1, 0, l, s, h => by omega
  | f + 1, g + 1, l, s, h => by
    have ih := fun l s => monLabels f g l s (by omega)
    unfold labelsS
    repeat' with_reducible (first | exact ih _ _ | exact PR.le.refl _ | refine PR.le.bind ?_ (fun _ _ => ?_) | refine PR.le.ite ?_ ?_)
theorem monS : ∀ f g, f ≤ g → MonS L f g
  | 0, g, _ => by
    refine ⟨?_, ?_, ?_, ?_, ?_, ?_, ?_, ?_, ?_, ?_, ?_, ?_⟩ <;> intros
    · unfold blockS; exact PR.le.out _
    · unfold Go.Am.blockL; exact PR.le.out _
    · unfold stmtS; exact PR.le.out _
    · unfold openS; exact PR.le.out _
    · unfold branchesS; exact PR.le.out _
    · unfold Go.Am.branchesL; exact PR.le.out _
    · unfold casesS; exact PR.le.out _
    · unfold Go.Am.casesL; exact PR.le.out _
    · unfold Go.Am.caseL; exact PR.le.out _
    · unfold countedS; exact PR.le.out _
    · unfold callS; exact PR.le.out _
    · unfold Go.Am.callL; exact PR.le.out _
  | f + 1, 0, h => by omega
  | f + 1, g + 1, h => by
    have ih := monS f g (by omega)
    have ihE := monE L f g (by omega)
    have i5 := ihE.expr
    have i6 := ihE.index
    have j0 := fun l s => monLabels L f g l s (by omega)
    have j1 := ih.block
    have j2 := ih.blockL
    have j3 := ih.stmt
    have j4 := ih.opn
    have j5 := ih.branches
    have j6 := ih.branchesL
    have j7 := ih.cases
    have j8 := ih.casesL
    have j9 := ih.caseL
    have j10 := ih.counted
    have j11 := ih.call
    have j12 := ih.callL
    refine ⟨?_, ?_, ?_, ?_, ?_, ?_, ?_, ?_, ?_, ?_, ?_, ?_⟩ <;> intros
    · unfold blockS; repeat' with_reducible (first | exact j2 _ _ _ | exact PR.le.refl _ | refine PR.le.bind ?_ (fun _ _ => ?_) | refine PR.le.ite ?_ ?_)
    · unfold Go.Am.blockL; repeat' with_reducible (first | exact j2 _ _ _ | exact j3 _ | exact PR.le.refl _ | refine PR.le.bind ?_ (fun _ _ => ?_) | refine PR.le.ite ?_ ?_)
    · unfold stmtS; repeat' with_reducible (first | exact j4 _ | exact PR.le.refl _ | refine PR.le.bind ?_ (fun _ _ => ?_) | refine PR.le.ite ?_ ?_)
    · unfold openS; repeat' with_reducible (first | exact i5 _ | exact i6 _ | exact j1 _ _ | exact j5 _ | exact j7 _ | exact j10 _ | exact j11 _ _ | exact PR.le.refl _ | refine PR.le.bind ?_ (fun _ _ => ?_) | refine PR.le.ite ?_ ?_)
    · unfold branchesS; repeat' with_reducible (first | exact j6 _ _ _ | exact PR.le.refl _ | refine PR.le.bind ?_ (fun _ _ => ?_) | refine PR.le.ite ?_ ?_)
    · unfold Go.Am.branchesL; repeat' with_reducible (first | exact i5 _ | exact j1 _ _ | exact j6 _ _ _ | exact PR.le.refl _ | refine PR.le.bind ?_ (fun _ _ => ?_) | refine PR.le.ite ?_ ?_)
    · unfold casesS; repeat' with_reducible (first | exact i5 _ | exact j8 _ _ _ _ | exact PR.le.refl _ | refine PR.le.bind ?_ (fun _ _ => ?_) | refine PR.le.ite ?_ ?_)
    · unfold Go.Am.casesL; repeat' with_reducible (first | exact j0 _ _ | exact j1 _ _ | exact j9 _ _ | exact j8 _ _ _ _ | exact PR.le.refl _ | refine PR.le.bind ?_ (fun _ _ => ?_) | refine PR.le.ite ?_ ?_)
    · unfold Go.Am.caseL; repeat' with_reducible (first | exact j3 _ | exact j9 _ _ | exact PR.le.refl _ | refine PR.le.bind ?_ (fun _ _ => ?_) | refine PR.le.ite ?_ ?_)
    · unfold countedS; repeat' with_reducible (first | exact i5 _ | exact j1 _ _ | exact PR.le.refl _ | refine PR.le.bind ?_ (fun _ _ => ?_) | refine PR.le.ite ?_ ?_)
    · unfold callS; repeat' with_reducible (first | exact j12 _ _ _ _ | exact PR.le.refl _ | refine PR.le.bind ?_ (fun _ _ => ?_) | refine PR.le.ite ?_ ?_)
    · unfold Go.Am.callL; repeat' with_reducible (first | exact i5 _ | exact j12 _ _ _ _ | exact PR.le.refl _ | refine PR.le.bind ?_ (fun _ _ => ?_) | refine PR.le.ite ?_ ?_)
end
end Go.Am
end
section
namespace Go.Am
open Go Go.Proofs
variable [Inhabited Mx2]
set_option maxRecDepth 20000
theorem range02 : List.range' 0 2 = [0, 1] := rfl
def outsL : List Nat := [79, 83, 80, 77, 49, 50, 116, 118, 162, 163, 144, 82, 176, 174]
structure FamE (L : List Sgn) (cl : CallFn) (f : Nat) : Prop where
  le : ∀ g a c r, cl g a c = some r → callT ctx g a c = some r
  out : ∀ g, outsL.contains g = true → cl g = callT ctx g
  level : ∀ n s, cl 164 [.ptr 0 0 0, .d (.int .i64 (n : Nat))] (pC L s) = (levelS L f n s).el (fun x s => some (.ret (.d (exD x)), pC2 L s)) (badK L)
  unary : ∀ s, cl 175 [.ptr 0 0 0] (pC L s) = (unaryS L f s).el (fun x s => some (.ret (.d (exD x)), pC2 L s)) (badK L)
  factor : ∀ s, cl 181 [.ptr 0 0 0] (pC L s) = (factorS L f s).el (fun x s => some (.ret (.d (exD x)), pC2 L s)) (badK L)
  index : ∀ s, cl 150 [.ptr 0 0 0] (pC L s) = (indexS L f s).el (fun x s => some (.ret (.d (exD x)), pC2 L s)) (badK L)
  expr : ∀ s, cl 148 [.ptr 0 0 0] (pC L s) = (exprS L f s).el (fun x s => some (.ret (.d (exD x)), pC2 L s)) (badK L)
def unopW (L : List Sgn) (f : Nat) (op : Int) (t : Sgn) (s : PS) : PM Ex := (inS L s).bind fun _ s => (takeS L s).bind fun _ s => (unaryS L f s).bind fun x s => (outS s).bind fun _ s => .ok (exSub op [] [x] t.line) s
def unaryW (L : List Sgn) (f : Nat) (s : PS) : PM Ex := (nowS L s).bind fun t s => (isS L [45] s).bind fun b s =>
    if b = true then unopW L f 6 t s else (isS L [78, 79, 84] s).bind fun b s => if b = true then unopW L f 7 t s else factorS L f s
theorem unop_le (L : List Sgn) (op : Int) (t : Sgn) (s : PS) : ∀ f, (unopS L f op t s).le (unopW L f op t s)
  | 0 => by unfold unopS; exact PR.le.out _
  | f + 1 => by
    have h := (monE L f (f + 1) (by omega)).unary
    unfold unopS unopW
    exact PR.le.bind (PR.le.refl _) fun _ _ => PR.le.bind (PR.le.refl _) fun _ _ => PR.le.bind (h _) fun _ _ => PR.le.refl _
theorem unary_le (L : List Sgn) (f : Nat) (s : PS) : (unaryS L (f + 1) s).le (unaryW L f s) := by
  unfold unaryS unaryW
  exact PR.le.bind (PR.le.refl _) fun _ _ => PR.le.bind (PR.le.refl _) fun _ _ => PR.le.ite (unop_le ..) (PR.le.bind (PR.le.refl _) fun _ _ => PR.le.ite (unop_le ..) (PR.le.refl _))
section
variable {L : List Sgn} {s : PS} {cl : CallFn} {f : Nat} (hL : L.length < 1000000) (F : FamE L cl f)
include hL F
theorem expr_f : Le ((exprS L (f + 1) s).el (fun x s => some (.ret (.d (exD x)), pC2 L s)) (badK L)) (callT ctx 148 [.ptr 0 0 0] (pC L s)) := by
  have h := F.level 0
  simp only [pCB, pC2B, badKB] at h
  refine Le.trans (Le.of_eq ?_) (ov148 F.le (by simp [pC]))
  unfold exprS
  simp at h
  simp [Tryd.f148, drwK_end, exD_A, pCB, pC2B, badKB, h]
theorem index_f : Le ((indexS L (f + 1) s).el (fun x s => some (.ret (.d (exD x)), pC2 L s)) (badK L)) (callT ctx 150 [.ptr 0 0 0] (pC L s)) := by
  have h := F.expr
  have e1 := F.out 116 (by decide)
  have e2 := F.out 49 (by decide)
  have e3 := F.out 118 (by decide)
  simp only [pCB, pC2B, badKB] at h
  refine Le.trans (Le.of_eq ?_) (ov150 F.le (by simp [pC]))
  unfold indexS
  simp [Tryd.f150, drwK_end, exD_A, pCB, pC2B, badKB, h, e1, e2, e3, in_r hL, must_r hL, out_r hL]
theorem unary_f : Le ((unaryS L (f + 1) s).el (fun x s => some (.ret (.d (exD x)), pC2 L s)) (badK L)) (callT ctx 175 [.ptr 0 0 0] (pC L s)) := by
  have h := F.factor
  have h' := F.unary
  have e1 := F.out 116 (by decide)
  have e2 := F.out 79 (by decide)
  have e3 := F.out 118 (by decide)
  have e4 := F.out 83 (by decide)
  have e5 := F.out 80 (by decide)
  simp only [pCB, pC2B, badKB] at h h'
  refine Le.trans (unary_le L f s).el (Le.trans (Le.of_eq ?_) (ov175 F.le (by simp [pC])))
  unfold unaryW unopW
  simp [Tryd.f175, drwK_end, exD_A, pCB, pC2B, badKB, h, h', e1, e2, e3, e4, e5, in_r hL, is_r, now_r, take_r hL, out_r hL, exSub]
theorem factor_f : Le ((factorS L (f + 1) s).el (fun x s => some (.ret (.d (exD x)), pC2 L s)) (badK L)) (callT ctx 181 [.ptr 0 0 0] (pC L s)) := by
  have h := F.expr
  have h' := F.index
  have e1 := F.out 116 (by decide)
  have e2 := F.out 79 (by decide)
  have e3 := F.out 118 (by decide)
  have e4 := F.out 83 (by decide)
  have e5 := F.out 80 (by decide)
  have e6 := F.out 77 (by decide)
  have e7 := F.out 49 (by decide)
  have e8 := F.out 50 (by decide)
  simp only [pCB, pC2B, badKB] at h h'
  refine Le.trans (Le.of_eq ?_) (ov181 F.le (by simp [pC]))
  unfold factorS
  simp [Tryd.f181, drwK_end, exD_A, pCB, pC2B, badKB, h, h', e1, e2, e3, e4, e5, e6, e7, e8, in_r hL, is_r, now_r, take_r hL, out_r hL, may_r hL, must_r hL, kind_r hL, exSub, exVar]
end
end Go.Am
end
section
namespace Go.Am
open Go Go.Proofs
variable [Inhabited Mx2]
set_option maxRecDepth 20000
def bxE (x : Ex) : Cont := .box [.d (.int .i64 (exo x)), .d (.int .i64 (exn x)), .d (.str (exa x)), .d (.str (exf x)), .d (.list ((exs x).map exD)), .d (.int .i64 (exl x))]
def bx0 : Cont := .box [.d (.int .i64 0), .d (.int .i64 0), .d (.str []), .d (.str []), .lit (.slice none 0 0), .d (.int .i64 0)]
def lvD : AV := .d (.list (lvT.map fun l => .list (l.map .str)))
section
variable {L : List Sgn} {cl : CallFn} {f : Nat} (hL : L.length < 1000000) (F : FamE L cl f)
include hL F
theorem level_loop (n : Nat) (hn : n < 6) (k : Kt) (R : Ex → PS → Ans) (B : Er → PS → Ans)
    (hp : ∀ env e s r, k (.panic 67 (fD e)) ⟨43, gl0, env, pM L s ++ r⟩ = B e s)
    (hx : ∀ x s v c E, (E = [(25, true, .d (.bool false))] ∨ E = [(41, true, .d (.bool true))]) → Le (R x s) (k (.exit 0) ⟨43, gl0, [(0, true, .ptr 0 0 0), (1, true, .d (.int .i64 n)), (4, true, .ptr 300 1 0), (5, true, lvD), (6, true, .ptr 400 1 0)] ++ E, pM L s ++ [⟨300, 1, bx0⟩, ⟨400, 1, bxE x⟩, ⟨450, v, c⟩]⟩)) :
    ∀ (j : Nat), j ≤ f → ∀ (x : Ex) (s : PS) (v : Nat) (c : Cont) (X : Env), (X = [] ∨ X = [(41, true, .d (.bool false))]) →
    Le ((levelL L j n x s).el R B) (denK (ctx.over cl) 164 (.loop (Code.at (codeOf Tryd.f164) [1, 1, 1, 1, 0, 0, 0])) ⟨43, gl0, [(0, true, .ptr 0 0 0), (1, true, .d (.int .i64 n)), (4, true, .ptr 300 1 0), (5, true, lvD), (6, true, .ptr 400 1 0)] ++ X, pM L s ++ [⟨300, 1, bx0⟩, ⟨400, 1, bxE x⟩, ⟨450, v, c⟩]⟩ k)
  | 0, hj, x, s, v, c, X, hX => by unfold levelL; exact Le.none
  | j + 1, hj, x, s, v, c, X, hX => by
    have ih := fun x s v c => level_loop n hn k R B hp hx j (by omega) x s v c _ (.inr rfl)
    have e1 := F.out 82 (by decide)
    have e2 := F.out 80 (by decide)
    have e3 := F.out 176 (by decide)
    have hw : IntKind.i64.wrap ((n : Int) + 1) = (n : Int) + 1 := wrap_id (by unfold I64; omega)
    have hlen : lvT.length = 6 := rfl
    have hlt : ∀ n, n < 6 → (lvT.getD n []).length < 1000000 := by decide
    have hc := contains_r (L := L) (s := s) (lvT.getD n []) (hlt n hn)
    have hn' : n < lvT.length := by rw [hlen]; exact hn
    have hget : lvT.getD n [] = lvT[n]'hn' := by rw [List.getD_eq_getElem?_getD, List.getElem?_eq_getElem hn']; rfl
    rw [hget] at hc
    rw [denK_loop]
    unfold levelL
    rw [hget]
    simp only [lvD] at hp hx ih ⊢
    generalize hws : lvT[n]'hn' = ws at *
    cases ha : anyS L ws s with
    | out => exact Le.none
    | bad e s1 =>
      apply Le.of_eq
      simp [ha, badKB] at hc
      simp [Tryd.f164, pM] at hp ⊢
      rcases hX with rfl | rfl <;> simp [hc, hp, e1, hlen, hn, hws]
    | ok b s1 =>
      simp only [bind_ok]
      simp [ha, pC2B] at hc
      cases b with
      | false =>
        have hx := hx x s1 v c _ (.inl rfl)
        simp [Tryd.f164, pM] at hx ⊢
        rcases hX with rfl | rfl <;> simpa [hc, e1, hlen, hn, hws] using hx
      | true =>
        have ht := take_r (L := L) (s := s1) hL
        cases hts : takeS L s1 with
        | out => exact Le.none
        | bad e s2 =>
          apply Le.of_eq
          simp [hts, badKB] at ht
          simp [Tryd.f164, pM] at hp ⊢
          rcases hX with rfl | rfl <;> simp [hc, ht, hp, e1, e2, hlen, hn, hws]
        | ok t s2 =>
          simp [hts, pC2B] at ht
          have hl := F.level (n + 1) s2
          simp only [bind_ok, if_true]
          rcases (monE L j f (by omega)).level (n + 1) s2 with hj | hj
          · rw [hj]; exact Le.none
          rw [← hj] at hl
          simp only [pCB, pC2B, badKB] at hl
          simp at hl
          cases hls : levelS L j (n + 1) s2 with
          | out => exact Le.none
          | bad e s3 =>
            apply Le.of_eq
            simp [hls] at hl
            simp [Tryd.f164, pM, bxE] at hp ⊢
            rcases hX with rfl | rfl <;> simp [hc, ht, hl, hw, hp, e1, e2, e3, hlen, hn, hws, operator_r, drwK_end]
          | ok y s3 =>
            simp [hls, exD_A] at hl
            have ih := ih (exSub (opI t.text) [] [x, y] t.line) s3
            have hx := hx (exSub (opI t.text) [] [x, y] t.line) s3
            simp only [bind_ok]
            simp [Tryd.f164, pM, bxE, exSub, exD_A] at hx ih ⊢
            have h02 : List.range' 0 2 = [0, 1] := rfl
            have hn3 : ((n : Int) = 3) = (n = 3) := by simp; omega
            rcases hX with rfl | rfl <;> simp [hc, ht, hl, hw, e1, e2, e3, hlen, hn, hws, operator_r, drwK_end, h02, hn3]
            all_goals
              by_cases h3 : n = 3
              · simp only [if_pos h3, el_ok]
                exact (hx _ _).2
              · simp only [if_neg h3]
                exact ih _ _
end
end Go.Am
end
section
namespace Go.Am
open Go Go.Proofs
variable [Inhabited Mx2]
set_option maxRecDepth 20000
section
variable {L : List Sgn} {s : PS} {cl : CallFn} {f : Nat} (hL : L.length < 1000000) (F : FamE L cl f)
include hL F
theorem level_f (n : Nat) : Le ((levelS L (f + 1) n s).el (fun x s => some (.ret (.d (exD x)), pC2 L s)) (badK L)) (callT ctx 164 [.ptr 0 0 0, .d (.int .i64 n)] (pC L s)) := by
  have e4 := F.out 174 (by decide)
  have hlv := levels_r
  have hlen : lvT.length = 6 := rfl
  refine Le.trans ?_ (ov164 F.le (by simp [pC]))
  unfold levelS
  by_cases h6 : n = 6
  · subst h6
    have hu := F.unary s
    simp only [pCB, pC2B, badKB] at hu
    apply Le.of_eq
    simp [Tryd.f164, drwK_end, exD_A, pCB, pC2B, badKB, hlv, e4, hu, hlen]
  · rw [if_neg h6]
    by_cases hn : n < 6
    · rw [if_pos hn]
      have hl := F.level (n + 1) s
      have hw : IntKind.i64.wrap ((n : Int) + 1) = (n : Int) + 1 := wrap_id (by unfold I64; omega)
      have h6' : ¬ ((n : Int) = 6) := by omega
      have hlp := fun k R B hp hx x s v c => level_loop hL F n hn k R B hp hx f (Nat.le_refl f) x s v c [] (.inl rfl)
      simp only [pCB, pC2B, badKB] at hl
      simp at hl
      simp only [el_bind]
      simp [Tryd.f164, pM, lvD, bxE, bx0] at hlp ⊢
      simp [drwK_end, exD_A, pCB, pC2B, badKB, hlv, e4, hl, hw, h6', hlen]
      refine Le.el (fun x s => ?_) fun e s => Le.refl _
      refine hlp _ _ _ ?_ ?_ _ _ _ _
      · intro env e s r
        simp
      · intro x s v c
        constructor <;> (apply Le.of_eq; simp [drwK_end, exD_A])
    · rw [if_neg hn]; exact Le.none
end
end Go.Am
end
section
namespace Go.Am
open Go Go.Proofs
variable [Inhabited Mx2]
set_option maxRecDepth 20000
section
variable {L : List Sgn} (hL : L.length < 1000000)
include hL
theorem labels_loop (k : Kt) (R : List Int → PS → Ans) (B : Er → PS → Ans)
    (hp : ∀ env e s r, k (.panic 67 (fD e)) ⟨24, gl0, env, pM L s ++ r⟩ = B e s)
    (hx : ∀ l s v, Le ((mustS L [58] s).el (fun _ s => R l s) B) (k (.exit 0) ⟨24, gl0, [(0, true, .ptr 0 0 0), (3, true, .vec 250 v 0 l.length), (20, true, .d (.bool true))], pM L s ++ [⟨250, v, .vec 1 (l.map fun n => .int .i64 n)⟩]⟩)) :
    ∀ (f : Nat) (l : List Int) (s : PS) (v : Nat) (X : Env), (X = [] ∨ X = [(20, true, .d (.bool false))]) →
    Le ((labelsS L f l s).el R B) (denK ctx 163 (.loop (Code.at (codeOf Tryd.f163) [1, 1, 0, 0, 0])) ⟨24, gl0, [(0, true, .ptr 0 0 0), (3, true, .vec 250 v 0 l.length)] ++ X, pM L s ++ [⟨250, v, .vec 1 (l.map fun n => .int .i64 n)⟩]⟩ k)
  | 0, l, s, v, X, hX => Le.none
  | f + 1, l, s, v, X, hX => by
    have ih := fun lo hi s v => labels_loop k R B hp hx f (l ++ [lo, hi]) s v _ (.inr rfl)
    have hx := fun lo hi => hx (l ++ [lo, hi])
    rw [denK_loop]
    unfold labelsS
    simp only [el_bind]
    by_cases hl : l.length < 100000
    · have h3 : (l.length + 2) * 8 ≤ 140737488355328 ∧ l.length ≤ 4611686018427387902 := by omega
      simp [Tryd.f163, pM] at hp ih hx ⊢
      rcases hX with rfl | rfl
      all_goals
        simp [signed_r hL, may_r hL, hp, hl, h3, pC2B, badKB, drwK_end]
        refine Le.el (fun lo s => Le.el (fun b s => Le.ite (fun hb => Le.el (fun hi s => Le.el (fun b s => Le.ite (fun hb => ?_) fun hb => ?_) fun _ _ => Le.refl _) fun _ _ => Le.refl _) fun hb => Le.el (fun b s => Le.ite (fun hb => ?_) fun hb => ?_) fun _ _ => Le.refl _) fun _ _ => Le.refl _) fun _ _ => Le.refl _
        · exact ih _ _ _ _
        · exact hx _ _ _ _
        · exact ih _ _ _ _
        · exact hx _ _ _ _
    · simp [Tryd.f163, pM] at hp ⊢
      rcases hX with rfl | rfl
      all_goals
        simp [signed_r hL, may_r hL, hp, hl, pC2B, badKB, drwK_end]
        refine Le.el (fun lo s => Le.el (fun b s => Le.ite (fun hb => Le.el (fun hi s => Le.none) fun _ _ => Le.refl _) fun hb => Le.none) fun _ _ => Le.refl _) fun _ _ => Le.refl _
theorem labels_le (f : Nat) (s : PS) : Le ((labelsS L f [] s).el (fun l s => some (.ret (.d (lbD l)), pC2 L s)) (badK L)) (callT ctx 163 [.ptr 0 0 0] (pC L s)) := by
  have hl := fun k R B hp hx v => labels_loop hL k R B hp hx f [] s v [] (.inl rfl)
  rw [run163 (by simp [pC])]
  simp [Tryd.f163, pM] at hl ⊢
  simp [pCB]
  refine hl _ _ _ ?_ ?_ _
  · intro env e s r
    simp [badKB]
  · intro l s v
    simp [must_r hL, pC2B, badKB, lbD]
    exact Le.refl _
end
end Go.Am
end
section
namespace Go.Am
open Go Go.Proofs
variable [Inhabited Mx2]
set_option maxRecDepth 20000
structure FamS (L : List Sgn) (cl : CallFn) (f : Nat) : Prop where
  E : FamE L cl f
  block : ∀ ws s, ws.length < 1000 → cl 52 [.ptr 0 0 0, .d (.list (ws.map .str))] (pC L s) = (blockS L f ws s).el (fun l s => some (.ret (.d (.list (l.map smD))), pC2 L s)) (badK L)
  stmt : ∀ s, cl 84 [.ptr 0 0 0] (pC L s) = (stmtS L f s).el (fun x s => some (.ret (.d (smD x)), pC2 L s)) (badK L)
  opn : ∀ s, cl 117 [.ptr 0 0 0] (pC L s) = (openS L f s).el (fun x s => some (.ret (.d (smD x)), pC2 L s)) (badK L)
  branches : ∀ s, cl 145 [.ptr 0 0 0] (pC L s) = (branchesS L f s).el (fun x s => some (.ret (.d (smD x)), pC2 L s)) (badK L)
  cases : ∀ s, cl 146 [.ptr 0 0 0] (pC L s) = (casesS L f s).el (fun x s => some (.ret (.d (smD x)), pC2 L s)) (badK L)
  counted : ∀ s, cl 147 [.ptr 0 0 0] (pC L s) = (countedS L f s).el (fun x s => some (.ret (.d (smD x)), pC2 L s)) (badK L)
  call : ∀ nm s, cl 149 [.ptr 0 0 0, .d (.str nm)] (pC L s) = (callS L f nm s).el (fun x s => some (.ret (.d (smD x)), pC2 L s)) (badK L)
section
variable {L : List Sgn} {s : PS} {cl : CallFn} {f : Nat} (hL : L.length < 1000000) (F : FamS L cl f)
include hL F
theorem stmt_f : Le ((stmtS L (f + 1) s).el (fun x s => some (.ret (.d (smD x)), pC2 L s)) (badK L)) (callT ctx 84 [.ptr 0 0 0] (pC L s)) := by
  have h := F.opn
  have e1 := F.E.out 116 (by decide)
  have e2 := F.E.out 49 (by decide)
  have e3 := F.E.out 118 (by decide)
  have e4 := F.E.out 79 (by decide)
  have hsm : ∀ (x : Sm) (l : Int), smAt l x = .mk (smo x) (sma x) (smt x) (smv x) (smc x) (smlb x) (smf x) (smb x) l := fun x l => by cases x; rfl
  simp only [pCB, pC2B, badKB] at h
  refine Le.trans (Le.of_eq ?_) (ov84 F.E.le (by simp [pC]))
  unfold stmtS
  simp [Tryd.f84, drwK_end, smD_A, hsm, pCB, pC2B, badKB, h, e1, e2, e3, e4, in_r hL, must_r hL, out_r hL, now_r]
theorem block_loop (ws : List Tx) (hws : ws.length < 1000) (k : Kt) (R : List Sm → PS → Ans) (B : Er → PS → Ans)
    (hp : ∀ env e s r, k (.panic 67 (fD e)) ⟨17, gl0, env, pM L s ++ r⟩ = B e s)
    (hx : ∀ l s v, Le (R l s) (k (.exit 0) ⟨17, gl0, [(0, true, .ptr 0 0 0), (1, true, .d (.list (ws.map .str))), (5, true, .vec 350 v 0 l.length), (10, true, .d (.bool false))], pM L s ++ [⟨350, v, .vec 19 (l.map smD)⟩]⟩)) :
    ∀ (j : Nat), j ≤ f → ∀ (l : List Sm) (s : PS) (v : Nat),
    Le ((blockL L j ws l s).el R B) (denK (ctx.over cl) 52 (.loop (Code.at (codeOf Tryd.f52) [1, 1, 0, 0, 0])) ⟨17, gl0, [(0, true, .ptr 0 0 0), (1, true, .d (.list (ws.map .str))), (5, true, .vec 350 v 0 l.length)], pM L s ++ [⟨350, v, .vec 19 (l.map smD)⟩]⟩ k)
  | 0, hj, l, s, v => by unfold blockL; exact Le.none
  | j + 1, hj, l, s, v => by
    have ih := fun x s v => block_loop ws hws k R B hp hx j (by omega) (l ++ [x]) s v
    have e1 := F.E.out 82 (by decide)
    have hc := contains_r (L := L) (s := s) ws (by omega)
    have hx := hx l
    rw [denK_loop]
    unfold blockL
    cases ha : anyS L ws s with
    | out => exact Le.none
    | bad e s1 =>
      apply Le.of_eq
      simp [ha, badKB] at hc
      simp [Tryd.f52, pM] at hp ⊢
      simp [hc, hp, e1]
    | ok b s1 =>
      simp only [bind_ok]
      simp [ha, pC2B] at hc
      cases b with
      | true =>
        have hx := hx s1 v
        simp [Tryd.f52, pM] at hx ⊢
        simpa [hc, e1] using hx
      | false =>
        have hl := F.stmt s1
        simp only [Bool.false_eq_true, if_false]
        rcases (monS L j f (by omega)).stmt s1 with hj | hj
        · rw [hj]; exact Le.none
        rw [← hj] at hl
        simp only [pCB, pC2B, badKB] at hl
        cases hls : stmtS L j s1 with
        | out => exact Le.none
        | bad e s3 =>
          apply Le.of_eq
          simp [hls] at hl
          simp [Tryd.f52, pM] at hp ⊢
          simp [hc, hl, hp, e1]
        | ok x s3 =>
          by_cases hlen : l.length < 100000
          · have h3 : (l.length + 1) * 288 ≤ 140737488355328 ∧ l.length ≤ 4611686018427387903 := by omega
            have ih := ih x s3
            simp [hls, smD_A] at hl
            simp only [bind_ok, if_pos hlen]
            simp [Tryd.f52, pM, smD_A] at ih ⊢
            simp [hc, hl, e1, h3, drwK_end]
            simpa using ih _
          · simp only [bind_ok, if_neg hlen]; exact Le.none
theorem block_f (ws : List Tx) (hws : ws.length < 1000) : Le ((blockS L (f + 1) ws s).el (fun l s => some (.ret (.d (.list (l.map smD))), pC2 L s)) (badK L)) (callT ctx 52 [.ptr 0 0 0, .d (.list (ws.map .str))] (pC L s)) := by
  have hl := fun k R B hp hx v => block_loop hL F ws hws k R B hp hx f (Nat.le_refl f) [] s v
  refine Le.trans ?_ (ov52 F.E.le (by simp [pC]))
  unfold blockS
  simp [Tryd.f52, pM] at hl ⊢
  simp [pCB]
  refine hl _ _ _ ?_ ?_ _
  · intro env e s r
    simp [badKB]
  · intro l s v
    simp [pC2B]
    exact Le.refl _
theorem counted_f : Le ((countedS L (f + 1) s).el (fun x s => some (.ret (.d (smD x)), pC2 L s)) (badK L)) (callT ctx 147 [.ptr 0 0 0] (pC L s)) := by
  have h := F.E.expr
  have h' := fun s => F.block [[69, 78, 68, 95, 70, 79, 82]] s (by decide)
  have e1 := F.E.out 77 (by decide)
  have e2 := F.E.out 49 (by decide)
  have e3 := F.E.out 50 (by decide)
  have e4 := F.E.out 79 (by decide)
  simp only [pCB, pC2B, badKB] at h h'
  refine Le.trans (Le.of_eq ?_) (ov147 F.E.le (by simp [pC]))
  unfold countedS
  simp at h'
  simp [Tryd.f147, drwK_end, range02, exD_A, smD_A, bkD, ex0, pCB, pC2B, badKB, h, h', e1, e2, e3, e4, may_r hL, must_r hL, kind_r hL, now_r]
theorem open_f : Le ((openS L (f + 1) s).el (fun x s => some (.ret (.d (smD x)), pC2 L s)) (badK L)) (callT ctx 117 [.ptr 0 0 0] (pC L s)) := by
  have h := F.E.expr
  have h2 := F.E.index
  have h' := F.block
  have h3 := F.branches
  have h4 := F.cases
  have h5 := F.counted
  have h6 := F.call
  have e1 := F.E.out 77 (by decide)
  have e2 := F.E.out 49 (by decide)
  have e3 := F.E.out 50 (by decide)
  have e4 := F.E.out 83 (by decide)
  simp only [pCB, pC2B, badKB] at h h' h2 h3 h4 h5 h6
  refine Le.trans (Le.of_eq ?_) (ov117 F.E.le (by simp [pC]))
  unfold openS
  have b1 := fun s => h' [[69, 78, 68, 95, 87, 72, 73, 76, 69]] s (by decide)
  have b2 := fun s => h' [[85, 78, 84, 73, 76]] s (by decide)
  simp at b1 b2
  simp [Tryd.f117, drwK_end, range02, exD_A, smD_A, bkD, ex0, exVar, exSub, smOp, pCB, pC2B, badKB, h, h2, h3, h4, h5, h6, b1, b2, e1, e2, e3, e4, may_r hL, must_r hL, kind_r hL, is_r]
end
end Go.Am
end
section
namespace Go.Am
open Go Go.Proofs
variable [Inhabited Mx2]
set_option maxRecDepth 20000
def bxS0 : Cont := .box [.d (.int .i64 0), .d (.str []), .d (.int .i64 0), .d (.int .i64 0), .d (.str []), .d (.str []), .lit (.slice none 0 0), .d (.int .i64 0), .d (.int .i64 0), .d (.int .i64 0), .d (.str []), .d (.str []), .lit (.slice none 0 0), .d (.int .i64 0), .lit (.slice none 0 0), .lit (.slice none 0 0), .lit (.slice none 0 0), .lit (.slice none 0 0), .d (.int .i64 0)]
def elseW (L : List Sgn) (f : Nat) (c : List Ex) (l : List (List Sm)) (s : PS) : PM Sm := (mayS L [69, 76, 83, 69] s).bind fun m s => (if m = true then (blockS L f [[69, 78, 68, 95, 73, 70]] s).bind fun z s => .ok (l ++ [z]) s else .ok l s).bind fun l s => (mustS L [69, 78, 68, 95, 73, 70] s).bind fun _ s => .ok (.mk 2 [] ex0 ex0 c [] [] l 0) s
def branchesW (L : List Sgn) (f j : Nat) (c : List Ex) (l : List (List Sm)) (s : PS) : PM Sm :=
  (exprS L f s).bind fun x s => (mustS L [84, 72, 69, 78] s).bind fun _ s => (blockS L f [[69, 76, 83, 73, 70], [69, 76, 83, 69], [69, 78, 68, 95, 73, 70]] s).bind fun b s =>
    if c.length < 100000 ∧ l.length < 100000 then (mayS L [69, 76, 83, 73, 70] s).bind fun m s => if m = true then branchesL L j (c ++ [x]) (l ++ [b]) s else elseW L f (c ++ [x]) (l ++ [b]) s
    else .out
theorem branchesL_le {L : List Sgn} {f j : Nat} (hj : j ≤ f) (c : List Ex) (l : List (List Sm)) (s : PS) : (branchesL L (j + 1) c l s).le (branchesW L f j c l s) := by
  have h1 := (monE L j f hj).expr
  have h2 := (monS L j f hj).block
  unfold branchesL branchesW elseW
  repeat' with_reducible (first | exact h1 _ | exact h2 _ _ | exact PR.le.refl _ | refine PR.le.bind ?_ (fun _ _ => ?_) | refine PR.le.ite ?_ ?_)
section
variable {L : List Sgn} {s : PS} {cl : CallFn} {f : Nat} (hL : L.length < 1000000) (F : FamS L cl f)
def brM (L : List Sgn) (s : PS) (c : List Ex) (l : List (List Sm)) (v1 v2 : Nat) : List Ent := pM L s ++ [⟨200, 1, bxS0⟩, ⟨250, 1, .box [.d (.int .i64 2), .d (.str []), .d (.int .i64 0), .d (.int .i64 0), .d (.str []), .d (.str []), .lit (.slice none 0 0), .d (.int .i64 0), .d (.int .i64 0), .d (.int .i64 0), .d (.str []), .d (.str []), .lit (.slice none 0 0), .d (.int .i64 0), .vec 251 v1 0 c.length, .lit (.slice none 0 0), .lit (.slice none 0 0), .vec 252 v2 0 l.length, .d (.int .i64 0)]⟩, ⟨251, v1, .vec 6 (c.map exD)⟩, ⟨252, v2, .vec 1 (l.map bkD)⟩]
include hL F
theorem branches_loop (k : Kt) (R : Sm → PS → Ans) (B : Er → PS → Ans)
    (hp : ∀ env e s r, k (.panic 67 (fD e)) ⟨38, gl0, env, pM L s ++ r⟩ = B e s)
    (hx : ∀ c l s v1 v2, c.length ≤ 100000 → l.length ≤ 100000 → Le ((elseW L f c l s).el R B) (k (.exit 0) ⟨38, gl0, [(0, true, .ptr 0 0 0), (2, true, .ptr 200 1 0), (3, true, .ptr 250 1 0), (24, true, .d (.bool true))], brM L s c l v1 v2⟩)) :
    ∀ (j : Nat), j ≤ f → ∀ (c : List Ex) (l : List (List Sm)) (s : PS) (v1 v2 : Nat) (X : Env), c.length ≤ 100000 → l.length ≤ 100000 → (X = [] ∨ X = [(24, true, .d (.bool false))]) →
    Le ((branchesL L j c l s).el R B) (denK (ctx.over cl) 145 (.loop (Code.at (codeOf Tryd.f145) [1, 1, 0, 0, 0])) ⟨38, gl0, [(0, true, .ptr 0 0 0), (2, true, .ptr 200 1 0), (3, true, .ptr 250 1 0)] ++ X, brM L s c l v1 v2⟩ k)
  | 0, hj, c, l, s, v1, v2, X, hc, hl, hX => by unfold branchesL; exact Le.none
  | j + 1, hj, c, l, s, v1, v2, X, hc, hl, hX => by
    have ih := fun x b s v1 v2 h1 h2 => branches_loop k R B hp hx j (by omega) (c ++ [x]) (l ++ [b]) s v1 v2 _ h1 h2 (.inr rfl)
    have e1 := F.E.out 77 (by decide)
    have e2 := F.E.out 49 (by decide)
    have h1 := F.E.expr
    have h2 := fun s => F.block [[69, 76, 83, 73, 70], [69, 76, 83, 69], [69, 78, 68, 95, 73, 70]] s (by decide)
    simp only [pCB, pC2B, badKB] at h1 h2
    refine Le.trans (branchesL_le (f := f) (show j ≤ f by omega) c l s).el ?_
    rw [denK_loop]
    unfold branchesW
    simp only [el_bind]
    simp at h2
    have h3 : (c.length + 1) * 80 ≤ 140737488355328 ∧ c.length ≤ 4611686018427387903 := by omega
    have h4 : (l.length + 1) * 24 ≤ 140737488355328 ∧ l.length ≤ 4611686018427387903 := by omega
    by_cases hlen : c.length < 100000 ∧ l.length < 100000
    · have hx := fun x b s v1 v2 => hx (c ++ [x]) (l ++ [b]) s v1 v2 (by simp; omega) (by simp; omega)
      have ih := fun x b s v1 v2 => ih x b s v1 v2 (by simp; omega) (by simp; omega)
      simp [Tryd.f145, pM, brM, bxS0, exD_A, bkD] at hp ih hx ⊢
      rcases hX with rfl | rfl
      all_goals
        simp [may_r hL, must_r hL, hp, hlen, h1, h2, h3, h4, e1, e2, pC2B, badKB, drwK_end, range02, exD_A, bkD]
        refine Le.el (fun x s => Le.el (fun _ s => Le.el (fun b s => Le.el (fun m s => Le.ite (fun hb => ?_) fun hb => ?_) fun _ _ => Le.refl _) fun _ _ => Le.refl _) fun _ _ => Le.refl _) fun _ _ => Le.refl _
        · exact ih _ _ _ _ _
        · exact hx _ _ _ _ _
    · simp only [if_neg hlen]
      simp [Tryd.f145, pM, brM, bxS0, exD_A, bkD] at hp ⊢
      rcases hX with rfl | rfl
      all_goals
        simp [may_r hL, must_r hL, hp, h1, h2, h3, h4, e1, e2, pC2B, badKB, drwK_end, range02, exD_A, bkD]
        exact Le.el (fun x s => Le.el (fun _ s => Le.el (fun b s => Le.none) fun _ _ => Le.refl _) fun _ _ => Le.refl _) fun _ _ => Le.refl _
theorem branches_f : Le ((branchesS L (f + 1) s).el (fun x s => some (.ret (.d (smD x)), pC2 L s)) (badK L)) (callT ctx 145 [.ptr 0 0 0] (pC L s)) := by
  have hl := fun k R B hp hx v1 v2 => branches_loop hL F k R B hp hx f (Nat.le_refl f) [] [] s v1 v2 [] (by simp) (by simp) (.inl rfl)
  have e1 := F.E.out 77 (by decide)
  have e2 := F.E.out 49 (by decide)
  have h2 := fun s => F.block [[69, 78, 68, 95, 73, 70]] s (by decide)
  simp only [pCB, pC2B, badKB] at h2
  refine Le.trans ?_ (ov145 F.E.le (by simp [pC]))
  unfold branchesS
  simp at h2
  simp [Tryd.f145, pM, brM, bxS0] at hl ⊢
  simp [pCB, drwK_end]
  refine hl _ _ _ ?_ ?_ _ _
  · intro env e s r
    simp [badKB]
  · intro c l s v1 v2 hc hl
    have h3 : (l.length + 1) * 24 ≤ 140737488355328 ∧ l.length ≤ 4611686018427387903 := by omega
    apply Le.of_eq
    simp [elseW, may_r hL, must_r hL, e1, e2, h2, h3, pC2B, badKB, drwK_end, range02, smD_A, ex0, bkD]
end
end Go.Am
end
section
namespace Go.Am
open Go Go.Proofs
variable [Inhabited Mx2]
set_option maxRecDepth 20000
def callE (L : List Sgn) (nm : Tx) (c : List Tx) (l : List Ex) (s : PS) : PM Sm := (mustS L [41] s).bind fun _ s => .ok (.mk 9 nm ex0 ex0 l [] c [] 0) s
def callW (L : List Sgn) (f j : Nat) (nm : Tx) (c : List Tx) (l : List Ex) (s : PS) : PM Sm :=
  (kindS L 1 s).bind fun t s => (mustS L [58, 61] s).bind fun _ s => (exprS L f s).bind fun x s =>
    if c.length < 100000 ∧ l.length < 100000 then (mayS L [44] s).bind fun b s => if b = true then callL L j nm (c ++ [t.text]) (l ++ [x]) s else callE L nm (c ++ [t.text]) (l ++ [x]) s else .out
theorem callL_le {L : List Sgn} {f j : Nat} (hj : j ≤ f) (nm : Tx) (c : List Tx) (l : List Ex) (s : PS) : (callL L (j + 1) nm c l s).le (callW L f j nm c l s) := by
  have h1 := (monE L j f hj).expr
  unfold callL callW callE
  repeat' with_reducible (first | exact h1 _ | exact PR.le.refl _ | refine PR.le.bind ?_ (fun _ _ => ?_) | refine PR.le.ite ?_ ?_)
section
variable {L : List Sgn} {s : PS} {cl : CallFn} {f : Nat} (hL : L.length < 1000000) (F : FamS L cl f)
def caM (L : List Sgn) (s : PS) (nm : Tx) (c : List Tx) (l : List Ex) (v1 v2 : Nat) : List Ent := pM L s ++ [⟨300, 1, bxS0⟩, ⟨350, 1, .box [.d (.int .i64 9), .d (.str nm), .d (.int .i64 0), .d (.int .i64 0), .d (.str []), .d (.str []), .lit (.slice none 0 0), .d (.int .i64 0), .d (.int .i64 0), .d (.int .i64 0), .d (.str []), .d (.str []), .lit (.slice none 0 0), .d (.int .i64 0), .vec 351 v1 0 l.length, .lit (.slice none 0 0), .vec 352 v2 0 c.length, .lit (.slice none 0 0), .d (.int .i64 0)]⟩, ⟨351, v1, .vec 6 (l.map exD)⟩, ⟨352, v2, .vec 1 (c.map .str)⟩]
include hL F
theorem call_loop (nm : Tx) (k : Kt) (R : Sm → PS → Ans) (B : Er → PS → Ans)
    (hp : ∀ env e s r, k (.panic 67 (fD e)) ⟨34, gl0, env, pM L s ++ r⟩ = B e s)
    (hx : ∀ c l s v1 v2, c.length ≤ 100000 → l.length ≤ 100000 → Le ((callE L nm c l s).el R B) (k (.exit 0) ⟨34, gl0, [(0, true, .ptr 0 0 0), (4, true, .ptr 300 1 0), (5, true, .ptr 350 1 0), (30, true, .d (.bool true))], caM L s nm c l v1 v2⟩)) :
    ∀ (j : Nat), j ≤ f → ∀ (c : List Tx) (l : List Ex) (s : PS) (v1 v2 : Nat) (X : Env), c.length ≤ 100000 → l.length ≤ 100000 → (X = [(9, true, .d (.bool false))] ∨ X = [(30, true, .d (.bool false))]) →
    Le ((callL L j nm c l s).el R B) (denK (ctx.over cl) 149 (.loop (Code.at (codeOf Tryd.f149) [1, 1, 1, 0, 0, 0])) ⟨34, gl0, [(0, true, .ptr 0 0 0), (4, true, .ptr 300 1 0), (5, true, .ptr 350 1 0)] ++ X, caM L s nm c l v1 v2⟩ k)
  | 0, hj, c, l, s, v1, v2, X, hc, hl, hX => by unfold callL; exact Le.none
  | j + 1, hj, c, l, s, v1, v2, X, hc, hl, hX => by
    have ih := fun x b s v1 v2 h1 h2 => call_loop nm k R B hp hx j (by omega) (c ++ [x]) (l ++ [b]) s v1 v2 _ h1 h2 (.inr rfl)
    have e1 := F.E.out 77 (by decide)
    have e2 := F.E.out 49 (by decide)
    have e3 := F.E.out 50 (by decide)
    have h1 := F.E.expr
    simp only [pCB, pC2B, badKB] at h1
    refine Le.trans (callL_le (f := f) (show j ≤ f by omega) nm c l s).el ?_
    rw [denK_loop]
    unfold callW
    simp only [el_bind]
    have h3 : (l.length + 1) * 80 ≤ 140737488355328 ∧ l.length ≤ 4611686018427387903 := by omega
    have h4 : (c.length + 1) * 16 ≤ 140737488355328 ∧ c.length ≤ 4611686018427387903 := by omega
    by_cases hlen : c.length < 100000 ∧ l.length < 100000
    · have hx := fun x b s v1 v2 => hx (c ++ [x]) (l ++ [b]) s v1 v2 (by simp; omega) (by simp; omega)
      have ih := fun x b s v1 v2 => ih x b s v1 v2 (by simp; omega) (by simp; omega)
      simp [Tryd.f149, pM, caM, bxS0, exD_A] at hp ih hx ⊢
      rcases hX with rfl | rfl
      all_goals
        simp [may_r hL, must_r hL, kind_r hL, hp, hlen, h1, h3, h4, e1, e2, e3, pC2B, badKB, drwK_end, range02, exD_A]
        refine Le.el (fun x s => Le.el (fun _ s => Le.el (fun b s => Le.el (fun m s => Le.ite (fun hb => ?_) fun hb => ?_) fun _ _ => Le.refl _) fun _ _ => Le.refl _) fun _ _ => Le.refl _) fun _ _ => Le.refl _
        · exact ih _ _ _ _ _
        · exact hx _ _ _ _ _
    · simp only [if_neg hlen]
      simp [Tryd.f149, pM, caM, bxS0, exD_A] at hp ⊢
      rcases hX with rfl | rfl
      all_goals
        simp [may_r hL, must_r hL, kind_r hL, hp, h1, h3, h4, e1, e2, e3, pC2B, badKB, drwK_end, range02, exD_A]
        exact Le.el (fun x s => Le.el (fun _ s => Le.el (fun b s => Le.none) fun _ _ => Le.refl _) fun _ _ => Le.refl _) fun _ _ => Le.refl _
theorem call_f (nm : Tx) : Le ((callS L (f + 1) nm s).el (fun x s => some (.ret (.d (smD x)), pC2 L s)) (badK L)) (callT ctx 149 [.ptr 0 0 0, .d (.str nm)] (pC L s)) := by
  have hl := fun k R B hp hx s v1 v2 => call_loop hL F nm k R B hp hx f (Nat.le_refl f) [] [] s v1 v2 _ (by simp) (by simp) (.inl rfl)
  have e1 := F.E.out 77 (by decide)
  have e2 := F.E.out 49 (by decide)
  refine Le.trans ?_ (ov149 F.E.le (by simp [pC]))
  unfold callS
  simp only [el_bind]
  simp [Tryd.f149, pM, caM, bxS0] at hl ⊢
  simp [pCB, pC2B, badKB, drwK_end, range02, may_r hL, e1, smD_A, ex0]
  refine Le.el (fun b s => Le.ite (fun hb => Le.refl _) fun hb => ?_) fun _ _ => Le.refl _
  refine hl _ _ _ ?_ ?_ _ _ _
  · intro env e s r
    simp
  · intro c l s v1 v2 hc hl
    apply Le.of_eq
    simp [callE, must_r hL, e2, pC2B, badKB, drwK_end, range02, smD_A, ex0]
end
end Go.Am
end
