/-
  Texts of one proof, one behind the other.
-/
import Derived.Test.YtecknaklaleloaaDoorP5
import Derived.Lib.Bytealg
import Derived.Lib.Index
import Derived.Lib.Strings
set_option linter.all false
section
namespace Go.Am
open Go
open Go.Proofs
set_option maxRecDepth 10000

noncomputable def keepL : List (Nat → List Nat) := [fun _ => [], fun _ => [], fun _ => [], keep3, keep4, fun _ => [], fun _ => [], keep7, keep8, fun _ => [], fun _ => [], keep11, keep12, fun _ => [], fun _ => [], fun _ => [], fun _ => [], keep17, keep18, fun _ => [], fun _ => [], fun _ => [], fun _ => [], keep23, keep24, keep25, fun _ => [], keep27, fun _ => [], fun _ => [], fun _ => [], fun _ => [], fun _ => [], fun _ => [], keep34, keep35, keep36, keep37, fun _ => [], fun _ => [], fun _ => [], fun _ => [], fun _ => [], fun _ => [], fun _ => [], keep45, keep46, keep47, keep48, keep49, keep50, keep51, keep52, fun _ => [], fun _ => [], fun _ => [], fun _ => [], keep57, keep58, keep59, keep60, fun _ => [], fun _ => [], fun _ => [], fun _ => [], fun _ => [], fun _ => [], keep67, keep68, keep69, keep70, keep71, keep72, keep73, keep74, keep75, keep76, keep77, keep78, keep79, keep80, keep81, keep82, keep83, keep84, fun _ => [], fun _ => [], fun _ => [], fun _ => [], fun _ => [], fun _ => [], keep91, keep92, keep93, keep94, keep95, keep96, fun _ => [], fun _ => [], fun _ => [], fun _ => [], fun _ => [], fun _ => [], fun _ => [], fun _ => [], fun _ => [], keep106, keep107, keep108, keep109, keep110, keep111, keep112, keep113, keep114, keep115, keep116, keep117, keep118, fun _ => [], fun _ => [], fun _ => [], fun _ => [], keep123, fun _ => [], fun _ => [], fun _ => [], fun _ => [], fun _ => [], fun _ => [], fun _ => [], fun _ => [], fun _ => [], fun _ => [], fun _ => [], fun _ => [], fun _ => [], keep137, keep138, keep139, keep140, keep141, keep142, keep143, keep144, keep145, keep146, keep147, keep148, keep149, keep150, fun _ => [], fun _ => [], fun _ => [], fun _ => [], fun _ => [], fun _ => [], keep157, keep158, keep159, keep160, keep161, keep162, keep163, keep164, fun _ => [], fun _ => [], fun _ => [], fun _ => [], fun _ => [], fun _ => [], fun _ => [], keep172, keep173, keep174, keep175, keep176, fun _ => [], fun _ => [], fun _ => [], fun _ => [], keep181, fun _ => [], fun _ => [], fun _ => [], fun _ => [], fun _ => [], fun _ => [], fun _ => [], fun _ => [], fun _ => [], fun _ => [], fun _ => [], fun _ => [], fun _ => [], fun _ => [], fun _ => [], fun _ => [], fun _ => [], fun _ => [], fun _ => [], fun _ => [], fun _ => [], fun _ => [], fun _ => [], fun _ => [], fun _ => [], fun _ => [], fun _ => [], fun _ => [], fun _ => [], fun _ => [], fun _ => [], fun _ => [], fun _ => [], fun _ => []]
noncomputable def ghL : List (Nat → List Gh) := [fun _ => [], fun _ => [], fun _ => [], fun _ => [], fun _ => [], fun _ => [], fun _ => [], fun _ => [], fun _ => [], fun _ => [], fun _ => [], fun _ => [], gh12, fun _ => [], fun _ => [], fun _ => [], fun _ => [], fun _ => [], fun _ => [], fun _ => [], fun _ => [], fun _ => [], fun _ => [], fun _ => [], fun _ => [], fun _ => [], fun _ => [], fun _ => [], fun _ => [], fun _ => [], fun _ => [], fun _ => [], fun _ => [], fun _ => [], fun _ => [], fun _ => [], fun _ => [], fun _ => [], fun _ => [], fun _ => [], fun _ => [], fun _ => [], fun _ => [], fun _ => [], fun _ => [], fun _ => [], fun _ => [], fun _ => [], fun _ => [], fun _ => [], fun _ => [], fun _ => [], fun _ => [], fun _ => [], fun _ => [], fun _ => [], fun _ => [], fun _ => [], fun _ => [], fun _ => [], fun _ => [], fun _ => [], fun _ => [], fun _ => [], fun _ => [], fun _ => [], fun _ => [], fun _ => [], fun _ => [], fun _ => [], fun _ => [], fun _ => [], fun _ => [], fun _ => [], fun _ => [], fun _ => [], fun _ => [], fun _ => [], fun _ => [], fun _ => [], fun _ => [], fun _ => [], fun _ => [], fun _ => [], fun _ => [], fun _ => [], fun _ => [], fun _ => [], fun _ => [], fun _ => [], fun _ => [], fun _ => [], fun _ => [], fun _ => [], fun _ => [], fun _ => [], fun _ => [], fun _ => [], fun _ => [], fun _ => [], fun _ => [], fun _ => [], fun _ => [], fun _ => [], fun _ => [], fun _ => [], fun _ => [], fun _ => [], fun _ => [], fun _ => [], fun _ => [], fun _ => [], fun _ => [], fun _ => [], fun _ => [], fun _ => [], fun _ => [], fun _ => [], fun _ => [], fun _ => [], fun _ => [], fun _ => [], fun _ => [], fun _ => [], fun _ => [], fun _ => [], fun _ => [], fun _ => [], fun _ => [], fun _ => [], fun _ => [], fun _ => [], fun _ => [], fun _ => [], fun _ => [], fun _ => [], fun _ => [], fun _ => [], fun _ => [], fun _ => [], fun _ => [], fun _ => [], fun _ => [], fun _ => [], fun _ => [], gh145, gh146, fun _ => [], fun _ => [], gh149, fun _ => [], fun _ => [], fun _ => [], fun _ => [], fun _ => [], fun _ => [], fun _ => [], fun _ => [], fun _ => [], fun _ => [], fun _ => [], fun _ => [], fun _ => [], fun _ => [], fun _ => [], fun _ => [], fun _ => [], fun _ => [], fun _ => [], fun _ => [], fun _ => [], fun _ => [], fun _ => [], fun _ => [], fun _ => [], fun _ => [], fun _ => [], fun _ => [], fun _ => [], fun _ => [], fun _ => [], fun _ => [], fun _ => [], fun _ => [], fun _ => [], fun _ => [], fun _ => [], fun _ => [], fun _ => [], fun _ => [], fun _ => [], fun _ => [], fun _ => [], fun _ => [], fun _ => [], fun _ => [], fun _ => [], fun _ => [], fun _ => [], fun _ => [], fun _ => [], fun _ => [], fun _ => [], fun _ => [], fun _ => [], fun _ => [], fun _ => [], fun _ => [], fun _ => [], fun _ => [], fun _ => [], fun _ => [], fun _ => [], fun _ => [], fun _ => [], fun _ => []]
noncomputable def mdL : List (Nat → Bool) := [fun _ => false, fun _ => false, fun _ => false, md3, md4, fun _ => false, fun _ => false, md7, md8, fun _ => false, fun _ => false, md11, md12, fun _ => false, fun _ => false, fun _ => false, fun _ => false, md17, md18, fun _ => false, fun _ => false, fun _ => false, fun _ => false, md23, md24, md25, fun _ => false, md27, fun _ => false, fun _ => false, fun _ => false, fun _ => false, fun _ => false, fun _ => false, md34, md35, md36, md37, fun _ => false, fun _ => false, fun _ => false, fun _ => false, fun _ => false, fun _ => false, fun _ => false, md45, md46, md47, md48, md49, md50, md51, md52, fun _ => false, fun _ => false, fun _ => false, fun _ => false, md57, md58, md59, md60, fun _ => false, fun _ => false, fun _ => false, fun _ => false, fun _ => false, fun _ => false, md67, md68, md69, md70, md71, md72, md73, md74, md75, md76, md77, md78, md79, md80, md81, md82, md83, md84, fun _ => false, fun _ => false, fun _ => false, fun _ => false, fun _ => false, fun _ => false, md91, md92, md93, md94, md95, md96, fun _ => false, fun _ => false, fun _ => false, fun _ => false, fun _ => false, fun _ => false, fun _ => false, fun _ => false, fun _ => false, md106, md107, md108, md109, md110, md111, md112, md113, md114, md115, md116, md117, md118, fun _ => false, fun _ => false, fun _ => false, fun _ => false, md123, fun _ => false, fun _ => false, fun _ => false, fun _ => false, fun _ => false, fun _ => false, fun _ => false, fun _ => false, fun _ => false, fun _ => false, fun _ => false, fun _ => false, fun _ => false, md137, md138, md139, md140, md141, md142, md143, md144, md145, md146, md147, md148, md149, md150, fun _ => false, fun _ => false, fun _ => false, fun _ => false, fun _ => false, fun _ => false, md157, md158, md159, md160, md161, md162, md163, md164, fun _ => false, fun _ => false, fun _ => false, fun _ => false, fun _ => false, fun _ => false, fun _ => false, md172, md173, md174, md175, md176, fun _ => false, fun _ => false, fun _ => false, fun _ => false, md181, fun _ => false, fun _ => false, fun _ => false, fun _ => false, fun _ => false, fun _ => false, fun _ => false, fun _ => false, fun _ => false, fun _ => false, fun _ => false, fun _ => false, fun _ => false, fun _ => false, fun _ => false, fun _ => false, fun _ => false, fun _ => false, fun _ => false, fun _ => false, fun _ => false, fun _ => false, fun _ => false, fun _ => false, fun _ => false, fun _ => false, fun _ => false, fun _ => false, fun _ => false, fun _ => false, fun _ => false, fun _ => false, fun _ => false, fun _ => false]
noncomputable def fpL : List FPol := [⟨[], false, [], [], false⟩, ⟨[], false, [], [], false⟩, ⟨[], false, [], [], false⟩, fp3, fp4, ⟨[], false, [], [], false⟩, ⟨[], false, [], [], false⟩, fp7, fp8, ⟨[], false, [], [], false⟩, ⟨[], false, [], [], false⟩, fp11, fp12, ⟨[], false, [], [], false⟩, ⟨[], false, [], [], false⟩, ⟨[], false, [], [], false⟩, ⟨[], false, [], [], false⟩, fp17, fp18, ⟨[], false, [], [], false⟩, ⟨[], false, [], [], false⟩, ⟨[], false, [], [], false⟩, ⟨[], false, [], [], false⟩, fp23, fp24, fp25, ⟨[], false, [], [], false⟩, fp27, ⟨[], false, [], [], false⟩, ⟨[], false, [], [], false⟩, ⟨[], false, [], [], false⟩, ⟨[], false, [], [], false⟩, ⟨[], false, [], [], false⟩, ⟨[], false, [], [], false⟩, fp34, fp35, fp36, fp37, ⟨[], false, [], [], false⟩, ⟨[], false, [], [], false⟩, ⟨[], false, [], [], false⟩, ⟨[], false, [], [], false⟩, ⟨[], false, [], [], false⟩, ⟨[], false, [], [], false⟩, ⟨[], false, [], [], false⟩, fp45, fp46, fp47, fp48, fp49, fp50, fp51, fp52, ⟨[], false, [], [], false⟩, ⟨[], false, [], [], false⟩, ⟨[], false, [], [], false⟩, ⟨[], false, [], [], false⟩, fp57, fp58, fp59, fp60, ⟨[], false, [], [], false⟩, ⟨[], false, [], [], false⟩, ⟨[], false, [], [], false⟩, ⟨[], false, [], [], false⟩, ⟨[], false, [], [], false⟩, ⟨[], false, [], [], false⟩, fp67, fp68, fp69, fp70, fp71, fp72, fp73, fp74, fp75, fp76, fp77, fp78, fp79, fp80, fp81, fp82, fp83, fp84, ⟨[], false, [], [], false⟩, ⟨[], false, [], [], false⟩, ⟨[], false, [], [], false⟩, ⟨[], false, [], [], false⟩, ⟨[], false, [], [], false⟩, ⟨[], false, [], [], false⟩, fp91, fp92, fp93, fp94, fp95, fp96, ⟨[], false, [], [], false⟩, ⟨[], false, [], [], false⟩, ⟨[], false, [], [], false⟩, ⟨[], false, [], [], false⟩, ⟨[], false, [], [], false⟩, ⟨[], false, [], [], false⟩, ⟨[], false, [], [], false⟩, ⟨[], false, [], [], false⟩, ⟨[], false, [], [], false⟩, fp106, fp107, fp108, fp109, fp110, fp111, fp112, fp113, fp114, fp115, fp116, fp117, fp118, ⟨[], false, [], [], false⟩, ⟨[], false, [], [], false⟩, ⟨[], false, [], [], false⟩, ⟨[], false, [], [], false⟩, fp123, ⟨[], false, [], [], false⟩, ⟨[], false, [], [], false⟩, ⟨[], false, [], [], false⟩, ⟨[], false, [], [], false⟩, ⟨[], false, [], [], false⟩, ⟨[], false, [], [], false⟩, ⟨[], false, [], [], false⟩, ⟨[], false, [], [], false⟩, ⟨[], false, [], [], false⟩, ⟨[], false, [], [], false⟩, ⟨[], false, [], [], false⟩, ⟨[], false, [], [], false⟩, ⟨[], false, [], [], false⟩, fp137, fp138, fp139, fp140, fp141, fp142, fp143, fp144, fp145, fp146, fp147, fp148, fp149, fp150, ⟨[], false, [], [], false⟩, ⟨[], false, [], [], false⟩, ⟨[], false, [], [], false⟩, ⟨[], false, [], [], false⟩, ⟨[], false, [], [], false⟩, ⟨[], false, [], [], false⟩, fp157, fp158, fp159, fp160, fp161, fp162, fp163, fp164, ⟨[], false, [], [], false⟩, ⟨[], false, [], [], false⟩, ⟨[], false, [], [], false⟩, ⟨[], false, [], [], false⟩, ⟨[], false, [], [], false⟩, ⟨[], false, [], [], false⟩, ⟨[], false, [], [], false⟩, fp172, fp173, fp174, fp175, fp176, ⟨[], false, [], [], false⟩, ⟨[], false, [], [], false⟩, ⟨[], false, [], [], false⟩, ⟨[], false, [], [], false⟩, fp181, ⟨[], false, [], [], false⟩, ⟨[], false, [], [], false⟩, ⟨[], false, [], [], false⟩, ⟨[], false, [], [], false⟩, ⟨[], false, [], [], false⟩, ⟨[], false, [], [], false⟩, ⟨[], false, [], [], false⟩, ⟨[], false, [], [], false⟩, ⟨[], false, [], [], false⟩, ⟨[], false, [], [], false⟩, ⟨[], false, [], [], false⟩, ⟨[], false, [], [], false⟩, ⟨[], false, [], [], false⟩, ⟨[], false, [], [], false⟩, ⟨[], false, [], [], false⟩, ⟨[], false, [], [], false⟩, ⟨[], false, [], [], false⟩, ⟨[], false, [], [], false⟩, ⟨[], false, [], [], false⟩, ⟨[], false, [], [], false⟩, ⟨[], false, [], [], false⟩, ⟨[], false, [], [], false⟩, ⟨[], false, [], [], false⟩, ⟨[], false, [], [], false⟩, ⟨[], false, [], [], false⟩, ⟨[], false, [], [], false⟩, ⟨[], false, [], [], false⟩, ⟨[], false, [], [], false⟩, ⟨[], false, [], [], false⟩, ⟨[], false, [], [], false⟩, ⟨[], false, [], [], false⟩, ⟨[], false, [], [], false⟩, ⟨[], false, [], [], false⟩, ⟨[], false, [], [], false⟩]
noncomputable def odL : List (Nat → List (List Nat)) := [fun _ => [], fun _ => [], fun _ => [], od3, od4, fun _ => [], fun _ => [], od7, od8, od9, fun _ => [], od11, od12, fun _ => [], fun _ => [], od15, od16, od17, od18, fun _ => [], od20, fun _ => [], fun _ => [], od23, od24, od25, fun _ => [], od27, fun _ => [], od29, fun _ => [], fun _ => [], fun _ => [], fun _ => [], od34, od35, od36, od37, fun _ => [], fun _ => [], fun _ => [], fun _ => [], fun _ => [], fun _ => [], fun _ => [], od45, od46, od47, od48, od49, od50, od51, od52, fun _ => [], fun _ => [], od55, fun _ => [], od57, od58, od59, od60, fun _ => [], fun _ => [], fun _ => [], fun _ => [], fun _ => [], fun _ => [], od67, od68, od69, od70, od71, od72, od73, od74, od75, od76, od77, od78, od79, od80, od81, od82, od83, od84, fun _ => [], fun _ => [], fun _ => [], fun _ => [], fun _ => [], od90, od91, od92, od93, od94, od95, od96, fun _ => [], fun _ => [], od99, fun _ => [], fun _ => [], fun _ => [], fun _ => [], fun _ => [], fun _ => [], od106, od107, od108, od109, od110, od111, od112, od113, od114, od115, od116, od117, od118, fun _ => [], fun _ => [], fun _ => [], fun _ => [], od123, fun _ => [], fun _ => [], fun _ => [], fun _ => [], fun _ => [], fun _ => [], od130, fun _ => [], fun _ => [], fun _ => [], fun _ => [], fun _ => [], fun _ => [], od137, od138, od139, od140, od141, od142, od143, od144, od145, od146, od147, od148, od149, od150, fun _ => [], fun _ => [], fun _ => [], fun _ => [], fun _ => [], fun _ => [], od157, od158, od159, od160, od161, od162, od163, od164, fun _ => [], od166, od167, fun _ => [], fun _ => [], fun _ => [], fun _ => [], od172, od173, od174, od175, od176, fun _ => [], fun _ => [], fun _ => [], fun _ => [], od181, fun _ => [], fun _ => [], fun _ => [], fun _ => [], fun _ => [], fun _ => [], fun _ => [], fun _ => [], fun _ => [], fun _ => [], fun _ => [], fun _ => [], fun _ => [], fun _ => [], fun _ => [], fun _ => [], fun _ => [], fun _ => [], fun _ => [], fun _ => [], fun _ => [], fun _ => [], fun _ => [], fun _ => [], fun _ => [], fun _ => [], fun _ => [], fun _ => [], fun _ => [], fun _ => [], fun _ => [], fun _ => [], fun _ => [], fun _ => []]
noncomputable def flL : List (Nat → List (Nat × Nat)) := [fun _ => [], fun _ => [], fun _ => [], fun _ => [], fun _ => [], fun _ => [], fun _ => [], fun _ => [], fun _ => [], fun _ => [], fun _ => [], fun _ => [], fun _ => [], fun _ => [], fun _ => [], fun _ => [], fun _ => [], fun _ => [], fun _ => [], fun _ => [], fun _ => [], fun _ => [], fun _ => [], fun _ => [], fun _ => [], fun _ => [], fun _ => [], fun _ => [], fun _ => [], fun _ => [], fun _ => [], fun _ => [], fun _ => [], fun _ => [], fun _ => [], fun _ => [], fun _ => [], fun _ => [], fun _ => [], fun _ => [], fun _ => [], fun _ => [], fun _ => [], fun _ => [], fun _ => [], fun _ => [], fun _ => [], fun _ => [], fun _ => [], fun _ => [], fun _ => [], fun _ => [], fun _ => [], fun _ => [], fun _ => [], fun _ => [], fun _ => [], fun _ => [], fun _ => [], fun _ => [], fun _ => [], fun _ => [], fun _ => [], fun _ => [], fun _ => [], fun _ => [], fun _ => [], fun _ => [], fun _ => [], fun _ => [], fun _ => [], fun _ => [], fun _ => [], fun _ => [], fun _ => [], fun _ => [], fun _ => [], fun _ => [], fun _ => [], fun _ => [], fun _ => [], fun _ => [], fun _ => [], fun _ => [], fun _ => [], fun _ => [], fun _ => [], fun _ => [], fun _ => [], fun _ => [], fun _ => [], fun _ => [], fun _ => [], fun _ => [], fun _ => [], fun _ => [], fun _ => [], fun _ => [], fun _ => [], fun _ => [], fun _ => [], fun _ => [], fun _ => [], fun _ => [], fun _ => [], fun _ => [], fun _ => [], fun _ => [], fun _ => [], fun _ => [], fun _ => [], fun _ => [], fun _ => [], fun _ => [], fun _ => [], fun _ => [], fun _ => [], fun _ => [], fun _ => [], fun _ => [], fun _ => [], fun _ => [], fun _ => [], fun _ => [], fun _ => [], fun _ => [], fun _ => [], fun _ => [], fun _ => [], fun _ => [], fun _ => [], fun _ => [], fun _ => [], fun _ => [], fun _ => [], fun _ => [], fun _ => [], fun _ => [], fun _ => [], fun _ => [], fun _ => [], fun _ => [], fun _ => [], fun _ => [], fun _ => [], fun _ => [], fun _ => [], fun _ => [], fun _ => [], fun _ => [], fun _ => [], fun _ => [], fun _ => [], fun _ => [], fun _ => [], fun _ => [], fun _ => [], fun _ => [], fun _ => [], fun _ => [], fun _ => [], fun _ => [], fun _ => [], fun _ => [], fun _ => [], fun _ => [], fun _ => [], fun _ => [], fun _ => [], fun _ => [], fun _ => [], fun _ => [], fun _ => [], fun _ => [], fun _ => [], fun _ => [], fun _ => [], fun _ => [], fun _ => [], fun _ => [], fun _ => [], fun _ => [], fun _ => [], fun _ => [], fun _ => [], fun _ => [], fun _ => [], fun _ => [], fun _ => [], fun _ => [], fun _ => [], fun _ => [], fun _ => [], fun _ => [], fun _ => [], fun _ => [], fun _ => [], fun _ => [], fun _ => [], fun _ => [], fun _ => [], fun _ => [], fun _ => [], fun _ => [], fun _ => [], fun _ => [], fun _ => [], fun _ => [], fun _ => [], fun _ => [], fun _ => [], fun _ => [], fun _ => [], fun _ => [], fun _ => [], fun _ => []]
/-- What the package-level variable internal/bytealg.MaxLen holds: whatever. -/
def Mx2 : Type := Int
variable [Inhabited Mx2]
def tab0 : List Int := [0, 0, 0, 0, 0, 0, 0, 0, 0, 1, 1, 1, 1, 1, 0, 0, 0, 0, 0, 0, 0, 0, 0, 0, 0, 0, 0, 0, 0, 0, 0, 0, 1, 0, 0, 0, 0, 0, 0, 0, 0, 0, 0, 0, 0, 0, 0, 0, 0, 0, 0, 0, 0, 0, 0, 0, 0, 0, 0, 0, 0, 0, 0, 0, 0, 0, 0, 0, 0, 0, 0, 0, 0, 0, 0, 0, 0, 0, 0, 0, 0, 0, 0, 0, 0, 0, 0, 0, 0, 0, 0, 0, 0, 0, 0, 0, 0, 0, 0, 0, 0, 0, 0, 0, 0, 0, 0, 0, 0, 0, 0, 0, 0, 0, 0, 0, 0, 0, 0, 0, 0, 0, 0, 0, 0, 0, 0, 0, 0, 0, 0, 0, 0, 0, 0, 0, 0, 0, 0, 0, 0, 0, 0, 0, 0, 0, 0, 0, 0, 0, 0, 0, 0, 0, 0, 0, 0, 0, 0, 0, 0, 0, 0, 0, 0, 0, 0, 0, 0, 0, 0, 0, 0, 0, 0, 0, 0, 0, 0, 0, 0, 0, 0, 0, 0, 0, 0, 0, 0, 0, 0, 0, 0, 0, 0, 0, 0, 0, 0, 0, 0, 0, 0, 0, 0, 0, 0, 0, 0, 0, 0, 0, 0, 0, 0, 0, 0, 0, 0, 0, 0, 0, 0, 0, 0, 0, 0, 0, 0, 0, 0, 0, 0, 0, 0, 0, 0, 0, 0, 0, 0, 0, 0, 0, 0, 0, 0, 0, 0, 0, 0, 0, 0, 0, 0, 0]
def gl0 : List (Nat × D) := [(2, .agg (tab0.map fun z => .int .u8 z)), (1, .int .i64 (id (α := Int) (default : Mx2)))]
@[simp] theorem glk_0 : glk gl0 2 = some (.agg (tab0.map fun z => .int .u8 z)) := rfl
def orc0 : FuncId → Option (List AV → Option AV)
  | 67 => some (liftO hpO)
  | 69 => some (liftO idxO)
  | 107 => some (liftO ibO)
  | _ => none
noncomputable def ctx : Ctx := ⟨Tryd.prog, gl0, fun f => keepL.getD f (fun _ => []), fun f => ghL.getD f (fun _ => []), fun f => mdL.getD f (fun _ => false), fun f => fpL.getD f ⟨[], false, [], [], false⟩, fun f => odL.getD f (fun _ => []), orc0, fun f => flL.getD f (fun _ => []), none⟩
@[simp] theorem ctx_P : ctx.P = Tryd.prog := rfl
@[simp] theorem ctx_gl : ctx.gl = gl0 := rfl
@[simp] def codeOf (fn : Func) : Code := fn.body.getD .skip
@[simp] theorem keepE3 : ctx.keep 3 = keep3 := rfl
@[simp] theorem ghE3 : ctx.gh 3 = fun _ => [] := rfl
@[simp] theorem mdE3 : ctx.md 3 = md3 := rfl
@[simp] theorem fpE3 : ctx.fp 3 = fp3 := rfl
@[simp] theorem flE3 : ctx.fl 3 = fun _ => [] := rfl
@[simp] theorem odE3 : ctx.od 3 = od3 := rfl
theorem run3 {args : List AV} {cs : List Cont} (h : callOk 93 fp3 args cs = true) : callT ctx 3 args cs = denK ctx 3 (codeOf Tryd.f3) (entry 93 gl0 args cs fp3.sites) (finK Tryd.prog fp3 cs.length [.tmp 4]) :=
  call_run rfl rfl Tryd.func3 rfl (by kernel_rfl) Tryd.ntmps3 (by rw [Tryd.results3]) rfl rfl h
theorem ov3 {cl : CallFn} (hcl : ∀ g a c r, cl g a c = some r → callT ctx g a c = some r) {args : List AV} {cs : List Cont} (h : callOk 93 fp3 args cs = true) : Le (denK (ctx.over cl) 3 (codeOf Tryd.f3) (entry 93 gl0 args cs fp3.sites) (finK Tryd.prog fp3 cs.length [.tmp 4])) (callT ctx 3 args cs) :=
  fun r hr => by rw [run3 h]; exact denK_over hcl hr
@[simp] theorem keepE4 : ctx.keep 4 = keep4 := rfl
@[simp] theorem ghE4 : ctx.gh 4 = fun _ => [] := rfl
@[simp] theorem mdE4 : ctx.md 4 = md4 := rfl
@[simp] theorem fpE4 : ctx.fp 4 = fp4 := rfl
@[simp] theorem flE4 : ctx.fl 4 = fun _ => [] := rfl
@[simp] theorem odE4 : ctx.od 4 = od4 := rfl
theorem run4 {args : List AV} {cs : List Cont} (h : callOk 109 fp4 args cs = true) : callT ctx 4 args cs = denK ctx 4 (codeOf Tryd.f4) (entry 109 gl0 args cs fp4.sites) (finK Tryd.prog fp4 cs.length [.tmp 4]) :=
  call_run rfl rfl Tryd.func4 rfl (by kernel_rfl) Tryd.ntmps4 (by rw [Tryd.results4]) rfl rfl h
theorem ov4 {cl : CallFn} (hcl : ∀ g a c r, cl g a c = some r → callT ctx g a c = some r) {args : List AV} {cs : List Cont} (h : callOk 109 fp4 args cs = true) : Le (denK (ctx.over cl) 4 (codeOf Tryd.f4) (entry 109 gl0 args cs fp4.sites) (finK Tryd.prog fp4 cs.length [.tmp 4])) (callT ctx 4 args cs) :=
  fun r hr => by rw [run4 h]; exact denK_over hcl hr
@[simp] theorem keepE7 : ctx.keep 7 = keep7 := rfl
@[simp] theorem ghE7 : ctx.gh 7 = fun _ => [] := rfl
@[simp] theorem mdE7 : ctx.md 7 = md7 := rfl
@[simp] theorem fpE7 : ctx.fp 7 = fp7 := rfl
@[simp] theorem flE7 : ctx.fl 7 = fun _ => [] := rfl
@[simp] theorem odE7 : ctx.od 7 = od7 := rfl
theorem run7 {args : List AV} {cs : List Cont} (h : callOk 65 fp7 args cs = true) : callT ctx 7 args cs = denK ctx 7 (codeOf Tryd.f7) (entry 65 gl0 args cs fp7.sites) (finK Tryd.prog fp7 cs.length [.tmp 4]) :=
  call_run rfl rfl Tryd.func7 rfl (by kernel_rfl) Tryd.ntmps7 (by rw [Tryd.results7]) rfl rfl h
theorem ov7 {cl : CallFn} (hcl : ∀ g a c r, cl g a c = some r → callT ctx g a c = some r) {args : List AV} {cs : List Cont} (h : callOk 65 fp7 args cs = true) : Le (denK (ctx.over cl) 7 (codeOf Tryd.f7) (entry 65 gl0 args cs fp7.sites) (finK Tryd.prog fp7 cs.length [.tmp 4])) (callT ctx 7 args cs) :=
  fun r hr => by rw [run7 h]; exact denK_over hcl hr
@[simp] theorem keepE8 : ctx.keep 8 = keep8 := rfl
@[simp] theorem ghE8 : ctx.gh 8 = fun _ => [] := rfl
@[simp] theorem mdE8 : ctx.md 8 = md8 := rfl
@[simp] theorem fpE8 : ctx.fp 8 = fp8 := rfl
@[simp] theorem flE8 : ctx.fl 8 = fun _ => [] := rfl
@[simp] theorem odE8 : ctx.od 8 = od8 := rfl
theorem run8 {args : List AV} {cs : List Cont} (h : callOk 71 fp8 args cs = true) : callT ctx 8 args cs = denK ctx 8 (codeOf Tryd.f8) (entry 71 gl0 args cs fp8.sites) (finK Tryd.prog fp8 cs.length [.tmp 2]) :=
  call_run rfl rfl Tryd.func8 rfl (by kernel_rfl) Tryd.ntmps8 (by rw [Tryd.results8]) rfl rfl h
theorem ov8 {cl : CallFn} (hcl : ∀ g a c r, cl g a c = some r → callT ctx g a c = some r) {args : List AV} {cs : List Cont} (h : callOk 71 fp8 args cs = true) : Le (denK (ctx.over cl) 8 (codeOf Tryd.f8) (entry 71 gl0 args cs fp8.sites) (finK Tryd.prog fp8 cs.length [.tmp 2])) (callT ctx 8 args cs) :=
  fun r hr => by rw [run8 h]; exact denK_over hcl hr
@[simp] theorem keepE11 : ctx.keep 11 = keep11 := rfl
@[simp] theorem ghE11 : ctx.gh 11 = fun _ => [] := rfl
@[simp] theorem mdE11 : ctx.md 11 = md11 := rfl
@[simp] theorem fpE11 : ctx.fp 11 = fp11 := rfl
@[simp] theorem flE11 : ctx.fl 11 = fun _ => [] := rfl
@[simp] theorem odE11 : ctx.od 11 = od11 := rfl
theorem run11 {args : List AV} {cs : List Cont} (h : callOk 45 fp11 args cs = true) : callT ctx 11 args cs = denK ctx 11 (codeOf Tryd.f11) (entry 45 gl0 args cs fp11.sites) (finK Tryd.prog fp11 cs.length [.tmp 0]) :=
  call_run rfl rfl Tryd.func11 rfl (by kernel_rfl) Tryd.ntmps11 (by rw [Tryd.results11]) rfl rfl h
theorem ov11 {cl : CallFn} (hcl : ∀ g a c r, cl g a c = some r → callT ctx g a c = some r) {args : List AV} {cs : List Cont} (h : callOk 45 fp11 args cs = true) : Le (denK (ctx.over cl) 11 (codeOf Tryd.f11) (entry 45 gl0 args cs fp11.sites) (finK Tryd.prog fp11 cs.length [.tmp 0])) (callT ctx 11 args cs) :=
  fun r hr => by rw [run11 h]; exact denK_over hcl hr
@[simp] theorem keepE12 : ctx.keep 12 = keep12 := rfl
@[simp] theorem ghE12 : ctx.gh 12 = gh12 := rfl
@[simp] theorem mdE12 : ctx.md 12 = md12 := rfl
@[simp] theorem fpE12 : ctx.fp 12 = fp12 := rfl
@[simp] theorem flE12 : ctx.fl 12 = fun _ => [] := rfl
@[simp] theorem odE12 : ctx.od 12 = od12 := rfl
theorem run12 {args : List AV} {cs : List Cont} (h : callOk 25 fp12 args cs = true) : callT ctx 12 args cs = denKD ctx 12 (codeOf Tryd.f12) (entry 25 gl0 args cs fp12.sites) [] (finKD ctx fp12 cs.length [.cell 2 26, .cell 3 27, .cell 4 29]) :=
  call_runD rfl rfl Tryd.func12 rfl (by kernel_rfl) Tryd.ntmps12 (by rw [Tryd.results12]) rfl h
@[simp] theorem keepE17 : ctx.keep 17 = keep17 := rfl
@[simp] theorem ghE17 : ctx.gh 17 = fun _ => [] := rfl
@[simp] theorem mdE17 : ctx.md 17 = md17 := rfl
@[simp] theorem fpE17 : ctx.fp 17 = fp17 := rfl
@[simp] theorem flE17 : ctx.fl 17 = fun _ => [] := rfl
@[simp] theorem odE17 : ctx.od 17 = od17 := rfl
theorem run17 {args : List AV} {cs : List Cont} (h : callOk 26 fp17 args cs = true) : callT ctx 17 args cs = denK ctx 17 (codeOf Tryd.f17) (entry 26 gl0 args cs fp17.sites) (finK Tryd.prog fp17 cs.length [.tmp 4]) :=
  call_run rfl rfl Tryd.func17 rfl (by kernel_rfl) Tryd.ntmps17 (by rw [Tryd.results17]) rfl rfl h
theorem ov17 {cl : CallFn} (hcl : ∀ g a c r, cl g a c = some r → callT ctx g a c = some r) {args : List AV} {cs : List Cont} (h : callOk 26 fp17 args cs = true) : Le (denK (ctx.over cl) 17 (codeOf Tryd.f17) (entry 26 gl0 args cs fp17.sites) (finK Tryd.prog fp17 cs.length [.tmp 4])) (callT ctx 17 args cs) :=
  fun r hr => by rw [run17 h]; exact denK_over hcl hr
@[simp] theorem keepE18 : ctx.keep 18 = keep18 := rfl
@[simp] theorem ghE18 : ctx.gh 18 = fun _ => [] := rfl
@[simp] theorem mdE18 : ctx.md 18 = md18 := rfl
@[simp] theorem fpE18 : ctx.fp 18 = fp18 := rfl
@[simp] theorem flE18 : ctx.fl 18 = fun _ => [] := rfl
@[simp] theorem odE18 : ctx.od 18 = od18 := rfl
theorem run18 {args : List AV} {cs : List Cont} (h : callOk 54 fp18 args cs = true) : callT ctx 18 args cs = denK ctx 18 (codeOf Tryd.f18) (entry 54 gl0 args cs fp18.sites) (finK Tryd.prog fp18 cs.length [.tmp 6]) :=
  call_run rfl rfl Tryd.func18 rfl (by kernel_rfl) Tryd.ntmps18 (by rw [Tryd.results18]) rfl rfl h
theorem ov18 {cl : CallFn} (hcl : ∀ g a c r, cl g a c = some r → callT ctx g a c = some r) {args : List AV} {cs : List Cont} (h : callOk 54 fp18 args cs = true) : Le (denK (ctx.over cl) 18 (codeOf Tryd.f18) (entry 54 gl0 args cs fp18.sites) (finK Tryd.prog fp18 cs.length [.tmp 6])) (callT ctx 18 args cs) :=
  fun r hr => by rw [run18 h]; exact denK_over hcl hr
@[simp] theorem keepE23 : ctx.keep 23 = keep23 := rfl
@[simp] theorem ghE23 : ctx.gh 23 = fun _ => [] := rfl
@[simp] theorem mdE23 : ctx.md 23 = md23 := rfl
@[simp] theorem fpE23 : ctx.fp 23 = fp23 := rfl
@[simp] theorem flE23 : ctx.fl 23 = fun _ => [] := rfl
@[simp] theorem odE23 : ctx.od 23 = od23 := rfl
theorem run23 {args : List AV} {cs : List Cont} (h : callOk 62 fp23 args cs = true) : callT ctx 23 args cs = denK ctx 23 (codeOf Tryd.f23) (entry 62 gl0 args cs fp23.sites) (finK Tryd.prog fp23 cs.length [.tmp 2, .tmp 3, .cell 4 29]) :=
  call_run rfl rfl Tryd.func23 rfl (by kernel_rfl) Tryd.ntmps23 (by rw [Tryd.results23]) rfl rfl h
theorem ov23 {cl : CallFn} (hcl : ∀ g a c r, cl g a c = some r → callT ctx g a c = some r) {args : List AV} {cs : List Cont} (h : callOk 62 fp23 args cs = true) : Le (denK (ctx.over cl) 23 (codeOf Tryd.f23) (entry 62 gl0 args cs fp23.sites) (finK Tryd.prog fp23 cs.length [.tmp 2, .tmp 3, .cell 4 29])) (callT ctx 23 args cs) :=
  fun r hr => by rw [run23 h]; exact denK_over hcl hr
@[simp] theorem keepE24 : ctx.keep 24 = keep24 := rfl
@[simp] theorem ghE24 : ctx.gh 24 = fun _ => [] := rfl
@[simp] theorem mdE24 : ctx.md 24 = md24 := rfl
@[simp] theorem fpE24 : ctx.fp 24 = fp24 := rfl
@[simp] theorem flE24 : ctx.fl 24 = fun _ => [] := rfl
@[simp] theorem odE24 : ctx.od 24 = od24 := rfl
theorem run24 {args ys : List AV} {rv : AV} {cs : List Cont} (hl : args.getLast? = some rv) (hy : args.dropLast = ys) (h : callOk 22 fp24 ys cs = true) : recT ctx 24 args cs = denRK ctx 24 rv (codeOf Tryd.f24) (entry 22 gl0 ys cs fp24.sites) (finRK Tryd.prog fp24 cs.length []) :=
  rec_run Tryd.func24 rfl Tryd.ntmps24 (by rw [Tryd.results24]) rfl hl hy h
@[simp] theorem keepE25 : ctx.keep 25 = keep25 := rfl
@[simp] theorem ghE25 : ctx.gh 25 = fun _ => [] := rfl
@[simp] theorem mdE25 : ctx.md 25 = md25 := rfl
@[simp] theorem fpE25 : ctx.fp 25 = fp25 := rfl
@[simp] theorem flE25 : ctx.fl 25 = fun _ => [] := rfl
@[simp] theorem odE25 : ctx.od 25 = od25 := rfl
theorem run25 {args : List AV} {cs : List Cont} (h : callOk 26 fp25 args cs = true) : callT ctx 25 args cs = denK ctx 25 (codeOf Tryd.f25) (entry 26 gl0 args cs fp25.sites) (finK Tryd.prog fp25 cs.length [.cell 2 26]) :=
  call_run rfl rfl Tryd.func25 rfl (by kernel_rfl) Tryd.ntmps25 (by rw [Tryd.results25]) rfl rfl h
theorem ov25 {cl : CallFn} (hcl : ∀ g a c r, cl g a c = some r → callT ctx g a c = some r) {args : List AV} {cs : List Cont} (h : callOk 26 fp25 args cs = true) : Le (denK (ctx.over cl) 25 (codeOf Tryd.f25) (entry 26 gl0 args cs fp25.sites) (finK Tryd.prog fp25 cs.length [.cell 2 26])) (callT ctx 25 args cs) :=
  fun r hr => by rw [run25 h]; exact denK_over hcl hr
@[simp] theorem keepE27 : ctx.keep 27 = keep27 := rfl
@[simp] theorem ghE27 : ctx.gh 27 = fun _ => [] := rfl
@[simp] theorem mdE27 : ctx.md 27 = md27 := rfl
@[simp] theorem fpE27 : ctx.fp 27 = fp27 := rfl
@[simp] theorem flE27 : ctx.fl 27 = fun _ => [] := rfl
@[simp] theorem odE27 : ctx.od 27 = od27 := rfl
theorem run27 {args : List AV} {cs : List Cont} (h : callOk 65 fp27 args cs = true) : callT ctx 27 args cs = denK ctx 27 (codeOf Tryd.f27) (entry 65 gl0 args cs fp27.sites) (finK Tryd.prog fp27 cs.length [.tmp 4]) :=
  call_run rfl rfl Tryd.func27 rfl (by kernel_rfl) Tryd.ntmps27 (by rw [Tryd.results27]) rfl rfl h
theorem ov27 {cl : CallFn} (hcl : ∀ g a c r, cl g a c = some r → callT ctx g a c = some r) {args : List AV} {cs : List Cont} (h : callOk 65 fp27 args cs = true) : Le (denK (ctx.over cl) 27 (codeOf Tryd.f27) (entry 65 gl0 args cs fp27.sites) (finK Tryd.prog fp27 cs.length [.tmp 4])) (callT ctx 27 args cs) :=
  fun r hr => by rw [run27 h]; exact denK_over hcl hr
@[simp] theorem keepE34 : ctx.keep 34 = keep34 := rfl
@[simp] theorem ghE34 : ctx.gh 34 = fun _ => [] := rfl
@[simp] theorem mdE34 : ctx.md 34 = md34 := rfl
@[simp] theorem fpE34 : ctx.fp 34 = fp34 := rfl
@[simp] theorem flE34 : ctx.fl 34 = fun _ => [] := rfl
@[simp] theorem odE34 : ctx.od 34 = od34 := rfl
theorem run34 {args : List AV} {cs : List Cont} (h : callOk 32 fp34 args cs = true) : callT ctx 34 args cs = denK ctx 34 (codeOf Tryd.f34) (entry 32 gl0 args cs fp34.sites) (finK Tryd.prog fp34 cs.length [.tmp 6]) :=
  call_run rfl rfl Tryd.func34 rfl (by kernel_rfl) Tryd.ntmps34 (by rw [Tryd.results34]) rfl rfl h
theorem ov34 {cl : CallFn} (hcl : ∀ g a c r, cl g a c = some r → callT ctx g a c = some r) {args : List AV} {cs : List Cont} (h : callOk 32 fp34 args cs = true) : Le (denK (ctx.over cl) 34 (codeOf Tryd.f34) (entry 32 gl0 args cs fp34.sites) (finK Tryd.prog fp34 cs.length [.tmp 6])) (callT ctx 34 args cs) :=
  fun r hr => by rw [run34 h]; exact denK_over hcl hr
@[simp] theorem keepE35 : ctx.keep 35 = keep35 := rfl
@[simp] theorem ghE35 : ctx.gh 35 = fun _ => [] := rfl
@[simp] theorem mdE35 : ctx.md 35 = md35 := rfl
@[simp] theorem fpE35 : ctx.fp 35 = fp35 := rfl
@[simp] theorem flE35 : ctx.fl 35 = fun _ => [] := rfl
@[simp] theorem odE35 : ctx.od 35 = od35 := rfl
theorem run35 {args : List AV} {cs : List Cont} (h : callOk 10 fp35 args cs = true) : callT ctx 35 args cs = denK ctx 35 (codeOf Tryd.f35) (entry 10 gl0 args cs fp35.sites) (finK Tryd.prog fp35 cs.length [.tmp 4]) :=
  call_run rfl rfl Tryd.func35 rfl (by kernel_rfl) Tryd.ntmps35 (by rw [Tryd.results35]) rfl rfl h
theorem ov35 {cl : CallFn} (hcl : ∀ g a c r, cl g a c = some r → callT ctx g a c = some r) {args : List AV} {cs : List Cont} (h : callOk 10 fp35 args cs = true) : Le (denK (ctx.over cl) 35 (codeOf Tryd.f35) (entry 10 gl0 args cs fp35.sites) (finK Tryd.prog fp35 cs.length [.tmp 4])) (callT ctx 35 args cs) :=
  fun r hr => by rw [run35 h]; exact denK_over hcl hr
@[simp] theorem keepE36 : ctx.keep 36 = keep36 := rfl
@[simp] theorem ghE36 : ctx.gh 36 = fun _ => [] := rfl
@[simp] theorem mdE36 : ctx.md 36 = md36 := rfl
@[simp] theorem fpE36 : ctx.fp 36 = fp36 := rfl
@[simp] theorem flE36 : ctx.fl 36 = fun _ => [] := rfl
@[simp] theorem odE36 : ctx.od 36 = od36 := rfl
theorem run36 {args : List AV} {cs : List Cont} (h : callOk 8 fp36 args cs = true) : callT ctx 36 args cs = denK ctx 36 (codeOf Tryd.f36) (entry 8 gl0 args cs fp36.sites) (finK Tryd.prog fp36 cs.length [.tmp 4]) :=
  call_run rfl rfl Tryd.func36 rfl (by kernel_rfl) Tryd.ntmps36 (by rw [Tryd.results36]) rfl rfl h
theorem ov36 {cl : CallFn} (hcl : ∀ g a c r, cl g a c = some r → callT ctx g a c = some r) {args : List AV} {cs : List Cont} (h : callOk 8 fp36 args cs = true) : Le (denK (ctx.over cl) 36 (codeOf Tryd.f36) (entry 8 gl0 args cs fp36.sites) (finK Tryd.prog fp36 cs.length [.tmp 4])) (callT ctx 36 args cs) :=
  fun r hr => by rw [run36 h]; exact denK_over hcl hr
@[simp] theorem keepE37 : ctx.keep 37 = keep37 := rfl
@[simp] theorem ghE37 : ctx.gh 37 = fun _ => [] := rfl
@[simp] theorem mdE37 : ctx.md 37 = md37 := rfl
@[simp] theorem fpE37 : ctx.fp 37 = fp37 := rfl
@[simp] theorem flE37 : ctx.fl 37 = fun _ => [] := rfl
@[simp] theorem odE37 : ctx.od 37 = od37 := rfl
theorem run37 {args : List AV} {cs : List Cont} (h : callOk 160 fp37 args cs = true) : callT ctx 37 args cs = denK ctx 37 (codeOf Tryd.f37) (entry 160 gl0 args cs fp37.sites) (finK Tryd.prog fp37 cs.length [.tmp 6]) :=
  call_run rfl rfl Tryd.func37 rfl (by kernel_rfl) Tryd.ntmps37 (by rw [Tryd.results37]) rfl rfl h
theorem ov37 {cl : CallFn} (hcl : ∀ g a c r, cl g a c = some r → callT ctx g a c = some r) {args : List AV} {cs : List Cont} (h : callOk 160 fp37 args cs = true) : Le (denK (ctx.over cl) 37 (codeOf Tryd.f37) (entry 160 gl0 args cs fp37.sites) (finK Tryd.prog fp37 cs.length [.tmp 6])) (callT ctx 37 args cs) :=
  fun r hr => by rw [run37 h]; exact denK_over hcl hr
@[simp] theorem keepE45 : ctx.keep 45 = keep45 := rfl
@[simp] theorem ghE45 : ctx.gh 45 = fun _ => [] := rfl
@[simp] theorem mdE45 : ctx.md 45 = md45 := rfl
@[simp] theorem fpE45 : ctx.fp 45 = fp45 := rfl
@[simp] theorem flE45 : ctx.fl 45 = fun _ => [] := rfl
@[simp] theorem odE45 : ctx.od 45 = od45 := rfl
theorem run45 {args : List AV} {cs : List Cont} (h : callOk 51 fp45 args cs = true) : callT ctx 45 args cs = denK ctx 45 (codeOf Tryd.f45) (entry 51 gl0 args cs fp45.sites) (finK Tryd.prog fp45 cs.length [.tmp 2]) :=
  call_run rfl rfl Tryd.func45 rfl (by kernel_rfl) Tryd.ntmps45 (by rw [Tryd.results45]) rfl rfl h
theorem ov45 {cl : CallFn} (hcl : ∀ g a c r, cl g a c = some r → callT ctx g a c = some r) {args : List AV} {cs : List Cont} (h : callOk 51 fp45 args cs = true) : Le (denK (ctx.over cl) 45 (codeOf Tryd.f45) (entry 51 gl0 args cs fp45.sites) (finK Tryd.prog fp45 cs.length [.tmp 2])) (callT ctx 45 args cs) :=
  fun r hr => by rw [run45 h]; exact denK_over hcl hr
@[simp] theorem keepE46 : ctx.keep 46 = keep46 := rfl
@[simp] theorem ghE46 : ctx.gh 46 = fun _ => [] := rfl
@[simp] theorem mdE46 : ctx.md 46 = md46 := rfl
@[simp] theorem fpE46 : ctx.fp 46 = fp46 := rfl
@[simp] theorem flE46 : ctx.fl 46 = fun _ => [] := rfl
@[simp] theorem odE46 : ctx.od 46 = od46 := rfl
theorem run46 {args : List AV} {cs : List Cont} (h : callOk 12 fp46 args cs = true) : callT ctx 46 args cs = denK ctx 46 (codeOf Tryd.f46) (entry 12 gl0 args cs fp46.sites) (finK Tryd.prog fp46 cs.length [.tmp 2]) :=
  call_run rfl rfl Tryd.func46 rfl (by kernel_rfl) Tryd.ntmps46 (by rw [Tryd.results46]) rfl rfl h
theorem ov46 {cl : CallFn} (hcl : ∀ g a c r, cl g a c = some r → callT ctx g a c = some r) {args : List AV} {cs : List Cont} (h : callOk 12 fp46 args cs = true) : Le (denK (ctx.over cl) 46 (codeOf Tryd.f46) (entry 12 gl0 args cs fp46.sites) (finK Tryd.prog fp46 cs.length [.tmp 2])) (callT ctx 46 args cs) :=
  fun r hr => by rw [run46 h]; exact denK_over hcl hr
@[simp] theorem keepE47 : ctx.keep 47 = keep47 := rfl
@[simp] theorem ghE47 : ctx.gh 47 = fun _ => [] := rfl
@[simp] theorem mdE47 : ctx.md 47 = md47 := rfl
@[simp] theorem fpE47 : ctx.fp 47 = fp47 := rfl
@[simp] theorem flE47 : ctx.fl 47 = fun _ => [] := rfl
@[simp] theorem odE47 : ctx.od 47 = od47 := rfl
theorem run47 {args : List AV} {cs : List Cont} (h : callOk 54 fp47 args cs = true) : callT ctx 47 args cs = denK ctx 47 (codeOf Tryd.f47) (entry 54 gl0 args cs fp47.sites) (finK Tryd.prog fp47 cs.length [.cell 4 29, .tmp 5]) :=
  call_run rfl rfl Tryd.func47 rfl (by kernel_rfl) Tryd.ntmps47 (by rw [Tryd.results47]) rfl rfl h
theorem ov47 {cl : CallFn} (hcl : ∀ g a c r, cl g a c = some r → callT ctx g a c = some r) {args : List AV} {cs : List Cont} (h : callOk 54 fp47 args cs = true) : Le (denK (ctx.over cl) 47 (codeOf Tryd.f47) (entry 54 gl0 args cs fp47.sites) (finK Tryd.prog fp47 cs.length [.cell 4 29, .tmp 5])) (callT ctx 47 args cs) :=
  fun r hr => by rw [run47 h]; exact denK_over hcl hr
@[simp] theorem keepE48 : ctx.keep 48 = keep48 := rfl
@[simp] theorem ghE48 : ctx.gh 48 = fun _ => [] := rfl
@[simp] theorem mdE48 : ctx.md 48 = md48 := rfl
@[simp] theorem fpE48 : ctx.fp 48 = fp48 := rfl
@[simp] theorem flE48 : ctx.fl 48 = fun _ => [] := rfl
@[simp] theorem odE48 : ctx.od 48 = od48 := rfl
theorem run48 {args : List AV} {cs : List Cont} (h : callOk 42 fp48 args cs = true) : callT ctx 48 args cs = denK ctx 48 (codeOf Tryd.f48) (entry 42 gl0 args cs fp48.sites) (finK Tryd.prog fp48 cs.length []) :=
  call_run rfl rfl Tryd.func48 rfl (by kernel_rfl) Tryd.ntmps48 (by rw [Tryd.results48]) rfl rfl h
theorem ov48 {cl : CallFn} (hcl : ∀ g a c r, cl g a c = some r → callT ctx g a c = some r) {args : List AV} {cs : List Cont} (h : callOk 42 fp48 args cs = true) : Le (denK (ctx.over cl) 48 (codeOf Tryd.f48) (entry 42 gl0 args cs fp48.sites) (finK Tryd.prog fp48 cs.length [])) (callT ctx 48 args cs) :=
  fun r hr => by rw [run48 h]; exact denK_over hcl hr
@[simp] theorem keepE49 : ctx.keep 49 = keep49 := rfl
@[simp] theorem ghE49 : ctx.gh 49 = fun _ => [] := rfl
@[simp] theorem mdE49 : ctx.md 49 = md49 := rfl
@[simp] theorem fpE49 : ctx.fp 49 = fp49 := rfl
@[simp] theorem flE49 : ctx.fl 49 = fun _ => [] := rfl
@[simp] theorem odE49 : ctx.od 49 = od49 := rfl
theorem run49 {args : List AV} {cs : List Cont} (h : callOk 11 fp49 args cs = true) : callT ctx 49 args cs = denK ctx 49 (codeOf Tryd.f49) (entry 11 gl0 args cs fp49.sites) (finK Tryd.prog fp49 cs.length []) :=
  call_run rfl rfl Tryd.func49 rfl (by kernel_rfl) Tryd.ntmps49 (by rw [Tryd.results49]) rfl rfl h
theorem ov49 {cl : CallFn} (hcl : ∀ g a c r, cl g a c = some r → callT ctx g a c = some r) {args : List AV} {cs : List Cont} (h : callOk 11 fp49 args cs = true) : Le (denK (ctx.over cl) 49 (codeOf Tryd.f49) (entry 11 gl0 args cs fp49.sites) (finK Tryd.prog fp49 cs.length [])) (callT ctx 49 args cs) :=
  fun r hr => by rw [run49 h]; exact denK_over hcl hr
@[simp] theorem keepE50 : ctx.keep 50 = keep50 := rfl
@[simp] theorem ghE50 : ctx.gh 50 = fun _ => [] := rfl
@[simp] theorem mdE50 : ctx.md 50 = md50 := rfl
@[simp] theorem fpE50 : ctx.fp 50 = fp50 := rfl
@[simp] theorem flE50 : ctx.fl 50 = fun _ => [] := rfl
@[simp] theorem odE50 : ctx.od 50 = od50 := rfl
theorem run50 {args : List AV} {cs : List Cont} (h : callOk 15 fp50 args cs = true) : callT ctx 50 args cs = denK ctx 50 (codeOf Tryd.f50) (entry 15 gl0 args cs fp50.sites) (finK Tryd.prog fp50 cs.length [.cell 4 29]) :=
  call_run rfl rfl Tryd.func50 rfl (by kernel_rfl) Tryd.ntmps50 (by rw [Tryd.results50]) rfl rfl h
theorem ov50 {cl : CallFn} (hcl : ∀ g a c r, cl g a c = some r → callT ctx g a c = some r) {args : List AV} {cs : List Cont} (h : callOk 15 fp50 args cs = true) : Le (denK (ctx.over cl) 50 (codeOf Tryd.f50) (entry 15 gl0 args cs fp50.sites) (finK Tryd.prog fp50 cs.length [.cell 4 29])) (callT ctx 50 args cs) :=
  fun r hr => by rw [run50 h]; exact denK_over hcl hr
@[simp] theorem keepE51 : ctx.keep 51 = keep51 := rfl
@[simp] theorem ghE51 : ctx.gh 51 = fun _ => [] := rfl
@[simp] theorem mdE51 : ctx.md 51 = md51 := rfl
@[simp] theorem fpE51 : ctx.fp 51 = fp51 := rfl
@[simp] theorem flE51 : ctx.fl 51 = fun _ => [] := rfl
@[simp] theorem odE51 : ctx.od 51 = od51 := rfl
theorem run51 {args : List AV} {cs : List Cont} (h : callOk 18 fp51 args cs = true) : callT ctx 51 args cs = denK ctx 51 (codeOf Tryd.f51) (entry 18 gl0 args cs fp51.sites) (finK Tryd.prog fp51 cs.length []) :=
  call_run rfl rfl Tryd.func51 rfl (by kernel_rfl) Tryd.ntmps51 (by rw [Tryd.results51]) rfl rfl h
theorem ov51 {cl : CallFn} (hcl : ∀ g a c r, cl g a c = some r → callT ctx g a c = some r) {args : List AV} {cs : List Cont} (h : callOk 18 fp51 args cs = true) : Le (denK (ctx.over cl) 51 (codeOf Tryd.f51) (entry 18 gl0 args cs fp51.sites) (finK Tryd.prog fp51 cs.length [])) (callT ctx 51 args cs) :=
  fun r hr => by rw [run51 h]; exact denK_over hcl hr
@[simp] theorem keepE52 : ctx.keep 52 = keep52 := rfl
@[simp] theorem ghE52 : ctx.gh 52 = fun _ => [] := rfl
@[simp] theorem mdE52 : ctx.md 52 = md52 := rfl
@[simp] theorem fpE52 : ctx.fp 52 = fp52 := rfl
@[simp] theorem flE52 : ctx.fl 52 = fun _ => [] := rfl
@[simp] theorem odE52 : ctx.od 52 = od52 := rfl
theorem run52 {args : List AV} {cs : List Cont} (h : callOk 17 fp52 args cs = true) : callT ctx 52 args cs = denK ctx 52 (codeOf Tryd.f52) (entry 17 gl0 args cs fp52.sites) (finK Tryd.prog fp52 cs.length [.tmp 4]) :=
  call_run rfl rfl Tryd.func52 rfl (by kernel_rfl) Tryd.ntmps52 (by rw [Tryd.results52]) rfl rfl h
theorem ov52 {cl : CallFn} (hcl : ∀ g a c r, cl g a c = some r → callT ctx g a c = some r) {args : List AV} {cs : List Cont} (h : callOk 17 fp52 args cs = true) : Le (denK (ctx.over cl) 52 (codeOf Tryd.f52) (entry 17 gl0 args cs fp52.sites) (finK Tryd.prog fp52 cs.length [.tmp 4])) (callT ctx 52 args cs) :=
  fun r hr => by rw [run52 h]; exact denK_over hcl hr
@[simp] theorem keepE57 : ctx.keep 57 = keep57 := rfl
@[simp] theorem ghE57 : ctx.gh 57 = fun _ => [] := rfl
@[simp] theorem mdE57 : ctx.md 57 = md57 := rfl
@[simp] theorem fpE57 : ctx.fp 57 = fp57 := rfl
@[simp] theorem flE57 : ctx.fl 57 = fun _ => [] := rfl
@[simp] theorem odE57 : ctx.od 57 = od57 := rfl
theorem run57 {args : List AV} {cs : List Cont} (h : callOk 32 fp57 args cs = true) : callT ctx 57 args cs = denK ctx 57 (codeOf Tryd.f57) (entry 32 gl0 args cs fp57.sites) (finK Tryd.prog fp57 cs.length [.tmp 6]) :=
  call_run rfl rfl Tryd.func57 rfl (by kernel_rfl) Tryd.ntmps57 (by rw [Tryd.results57]) rfl rfl h
theorem ov57 {cl : CallFn} (hcl : ∀ g a c r, cl g a c = some r → callT ctx g a c = some r) {args : List AV} {cs : List Cont} (h : callOk 32 fp57 args cs = true) : Le (denK (ctx.over cl) 57 (codeOf Tryd.f57) (entry 32 gl0 args cs fp57.sites) (finK Tryd.prog fp57 cs.length [.tmp 6])) (callT ctx 57 args cs) :=
  fun r hr => by rw [run57 h]; exact denK_over hcl hr
@[simp] theorem keepE58 : ctx.keep 58 = keep58 := rfl
@[simp] theorem ghE58 : ctx.gh 58 = fun _ => [] := rfl
@[simp] theorem mdE58 : ctx.md 58 = md58 := rfl
@[simp] theorem fpE58 : ctx.fp 58 = fp58 := rfl
@[simp] theorem flE58 : ctx.fl 58 = fun _ => [] := rfl
@[simp] theorem odE58 : ctx.od 58 = od58 := rfl
theorem run58 {args : List AV} {cs : List Cont} (h : callOk 59 fp58 args cs = true) : callT ctx 58 args cs = denK ctx 58 (codeOf Tryd.f58) (entry 59 gl0 args cs fp58.sites) (finK Tryd.prog fp58 cs.length [.tmp 4]) :=
  call_run rfl rfl Tryd.func58 rfl (by kernel_rfl) Tryd.ntmps58 (by rw [Tryd.results58]) rfl rfl h
theorem ov58 {cl : CallFn} (hcl : ∀ g a c r, cl g a c = some r → callT ctx g a c = some r) {args : List AV} {cs : List Cont} (h : callOk 59 fp58 args cs = true) : Le (denK (ctx.over cl) 58 (codeOf Tryd.f58) (entry 59 gl0 args cs fp58.sites) (finK Tryd.prog fp58 cs.length [.tmp 4])) (callT ctx 58 args cs) :=
  fun r hr => by rw [run58 h]; exact denK_over hcl hr
@[simp] theorem keepE59 : ctx.keep 59 = keep59 := rfl
@[simp] theorem ghE59 : ctx.gh 59 = fun _ => [] := rfl
@[simp] theorem mdE59 : ctx.md 59 = md59 := rfl
@[simp] theorem fpE59 : ctx.fp 59 = fp59 := rfl
@[simp] theorem flE59 : ctx.fl 59 = fun _ => [] := rfl
@[simp] theorem odE59 : ctx.od 59 = od59 := rfl
theorem run59 {args : List AV} {cs : List Cont} (h : callOk 74 fp59 args cs = true) : callT ctx 59 args cs = denK ctx 59 (codeOf Tryd.f59) (entry 74 gl0 args cs fp59.sites) (finK Tryd.prog fp59 cs.length [.tmp 6]) :=
  call_run rfl rfl Tryd.func59 rfl (by kernel_rfl) Tryd.ntmps59 (by rw [Tryd.results59]) rfl rfl h
theorem ov59 {cl : CallFn} (hcl : ∀ g a c r, cl g a c = some r → callT ctx g a c = some r) {args : List AV} {cs : List Cont} (h : callOk 74 fp59 args cs = true) : Le (denK (ctx.over cl) 59 (codeOf Tryd.f59) (entry 74 gl0 args cs fp59.sites) (finK Tryd.prog fp59 cs.length [.tmp 6])) (callT ctx 59 args cs) :=
  fun r hr => by rw [run59 h]; exact denK_over hcl hr
@[simp] theorem keepE60 : ctx.keep 60 = keep60 := rfl
@[simp] theorem ghE60 : ctx.gh 60 = fun _ => [] := rfl
@[simp] theorem mdE60 : ctx.md 60 = md60 := rfl
@[simp] theorem fpE60 : ctx.fp 60 = fp60 := rfl
@[simp] theorem flE60 : ctx.fl 60 = fun _ => [] := rfl
@[simp] theorem odE60 : ctx.od 60 = od60 := rfl
theorem run60 {args : List AV} {cs : List Cont} (h : callOk 26 fp60 args cs = true) : callT ctx 60 args cs = denK ctx 60 (codeOf Tryd.f60) (entry 26 gl0 args cs fp60.sites) (finK Tryd.prog fp60 cs.length [.tmp 4]) :=
  call_run rfl rfl Tryd.func60 rfl (by kernel_rfl) Tryd.ntmps60 (by rw [Tryd.results60]) rfl rfl h
theorem ov60 {cl : CallFn} (hcl : ∀ g a c r, cl g a c = some r → callT ctx g a c = some r) {args : List AV} {cs : List Cont} (h : callOk 26 fp60 args cs = true) : Le (denK (ctx.over cl) 60 (codeOf Tryd.f60) (entry 26 gl0 args cs fp60.sites) (finK Tryd.prog fp60 cs.length [.tmp 4])) (callT ctx 60 args cs) :=
  fun r hr => by rw [run60 h]; exact denK_over hcl hr
@[simp] theorem keepE67 : ctx.keep 67 = keep67 := rfl
@[simp] theorem ghE67 : ctx.gh 67 = fun _ => [] := rfl
@[simp] theorem mdE67 : ctx.md 67 = md67 := rfl
@[simp] theorem fpE67 : ctx.fp 67 = fp67 := rfl
@[simp] theorem flE67 : ctx.fl 67 = fun _ => [] := rfl
@[simp] theorem odE67 : ctx.od 67 = od67 := rfl
@[simp] theorem orc_run67 {args : List AV} {cs : List Cont} : callT ctx 67 args cs = orcAns (liftO hpO) args cs := callT_orc rfl rfl
@[simp] theorem keepE68 : ctx.keep 68 = keep68 := rfl
@[simp] theorem ghE68 : ctx.gh 68 = fun _ => [] := rfl
@[simp] theorem mdE68 : ctx.md 68 = md68 := rfl
@[simp] theorem fpE68 : ctx.fp 68 = fp68 := rfl
@[simp] theorem flE68 : ctx.fl 68 = fun _ => [] := rfl
@[simp] theorem odE68 : ctx.od 68 = od68 := rfl
theorem run68 {args : List AV} {cs : List Cont} (h : callOk 8 fp68 args cs = true) : callT ctx 68 args cs = denK ctx 68 (codeOf Tryd.f68) (entry 8 gl0 args cs fp68.sites) (finK Tryd.prog fp68 cs.length [.tmp 4]) :=
  call_run rfl rfl Tryd.func68 rfl (by kernel_rfl) Tryd.ntmps68 (by rw [Tryd.results68]) rfl rfl h
theorem ov68 {cl : CallFn} (hcl : ∀ g a c r, cl g a c = some r → callT ctx g a c = some r) {args : List AV} {cs : List Cont} (h : callOk 8 fp68 args cs = true) : Le (denK (ctx.over cl) 68 (codeOf Tryd.f68) (entry 8 gl0 args cs fp68.sites) (finK Tryd.prog fp68 cs.length [.tmp 4])) (callT ctx 68 args cs) :=
  fun r hr => by rw [run68 h]; exact denK_over hcl hr
@[simp] theorem keepE69 : ctx.keep 69 = keep69 := rfl
@[simp] theorem ghE69 : ctx.gh 69 = fun _ => [] := rfl
@[simp] theorem mdE69 : ctx.md 69 = md69 := rfl
@[simp] theorem fpE69 : ctx.fp 69 = fp69 := rfl
@[simp] theorem flE69 : ctx.fl 69 = fun _ => [] := rfl
@[simp] theorem odE69 : ctx.od 69 = od69 := rfl
@[simp] theorem orc_run69 {args : List AV} {cs : List Cont} : callT ctx 69 args cs = orcAns (liftO idxO) args cs := callT_orc rfl rfl
@[simp] theorem keepE70 : ctx.keep 70 = keep70 := rfl
@[simp] theorem ghE70 : ctx.gh 70 = fun _ => [] := rfl
@[simp] theorem mdE70 : ctx.md 70 = md70 := rfl
@[simp] theorem fpE70 : ctx.fp 70 = fp70 := rfl
@[simp] theorem flE70 : ctx.fl 70 = fun _ => [] := rfl
@[simp] theorem odE70 : ctx.od 70 = od70 := rfl
theorem run70 {args : List AV} {cs : List Cont} (h : callOk 17 fp70 args cs = true) : callT ctx 70 args cs = denK ctx 70 (codeOf Tryd.f70) (entry 17 gl0 args cs fp70.sites) (finK Tryd.prog fp70 cs.length [.tmp 2]) :=
  call_run rfl rfl Tryd.func70 rfl (by kernel_rfl) Tryd.ntmps70 (by rw [Tryd.results70]) rfl rfl h
theorem ov70 {cl : CallFn} (hcl : ∀ g a c r, cl g a c = some r → callT ctx g a c = some r) {args : List AV} {cs : List Cont} (h : callOk 17 fp70 args cs = true) : Le (denK (ctx.over cl) 70 (codeOf Tryd.f70) (entry 17 gl0 args cs fp70.sites) (finK Tryd.prog fp70 cs.length [.tmp 2])) (callT ctx 70 args cs) :=
  fun r hr => by rw [run70 h]; exact denK_over hcl hr
@[simp] theorem keepE71 : ctx.keep 71 = keep71 := rfl
@[simp] theorem ghE71 : ctx.gh 71 = fun _ => [] := rfl
@[simp] theorem mdE71 : ctx.md 71 = md71 := rfl
@[simp] theorem fpE71 : ctx.fp 71 = fp71 := rfl
@[simp] theorem flE71 : ctx.fl 71 = fun _ => [] := rfl
@[simp] theorem odE71 : ctx.od 71 = od71 := rfl
theorem run71 {args : List AV} {cs : List Cont} (h : callOk 20 fp71 args cs = true) : callT ctx 71 args cs = denK ctx 71 (codeOf Tryd.f71) (entry 20 gl0 args cs fp71.sites) (finK Tryd.prog fp71 cs.length [.tmp 4]) :=
  call_run rfl rfl Tryd.func71 rfl (by kernel_rfl) Tryd.ntmps71 (by rw [Tryd.results71]) rfl rfl h
theorem ov71 {cl : CallFn} (hcl : ∀ g a c r, cl g a c = some r → callT ctx g a c = some r) {args : List AV} {cs : List Cont} (h : callOk 20 fp71 args cs = true) : Le (denK (ctx.over cl) 71 (codeOf Tryd.f71) (entry 20 gl0 args cs fp71.sites) (finK Tryd.prog fp71 cs.length [.tmp 4])) (callT ctx 71 args cs) :=
  fun r hr => by rw [run71 h]; exact denK_over hcl hr
@[simp] theorem keepE72 : ctx.keep 72 = keep72 := rfl
@[simp] theorem ghE72 : ctx.gh 72 = fun _ => [] := rfl
@[simp] theorem mdE72 : ctx.md 72 = md72 := rfl
@[simp] theorem fpE72 : ctx.fp 72 = fp72 := rfl
@[simp] theorem flE72 : ctx.fl 72 = fun _ => [] := rfl
@[simp] theorem odE72 : ctx.od 72 = od72 := rfl
theorem run72 {args : List AV} {cs : List Cont} (h : callOk 13 fp72 args cs = true) : callT ctx 72 args cs = denK ctx 72 (codeOf Tryd.f72) (entry 13 gl0 args cs fp72.sites) (finK Tryd.prog fp72 cs.length [.tmp 2]) :=
  call_run rfl rfl Tryd.func72 rfl (by kernel_rfl) Tryd.ntmps72 (by rw [Tryd.results72]) rfl rfl h
theorem ov72 {cl : CallFn} (hcl : ∀ g a c r, cl g a c = some r → callT ctx g a c = some r) {args : List AV} {cs : List Cont} (h : callOk 13 fp72 args cs = true) : Le (denK (ctx.over cl) 72 (codeOf Tryd.f72) (entry 13 gl0 args cs fp72.sites) (finK Tryd.prog fp72 cs.length [.tmp 2])) (callT ctx 72 args cs) :=
  fun r hr => by rw [run72 h]; exact denK_over hcl hr
@[simp] theorem keepE73 : ctx.keep 73 = keep73 := rfl
@[simp] theorem ghE73 : ctx.gh 73 = fun _ => [] := rfl
@[simp] theorem mdE73 : ctx.md 73 = md73 := rfl
@[simp] theorem fpE73 : ctx.fp 73 = fp73 := rfl
@[simp] theorem flE73 : ctx.fl 73 = fun _ => [] := rfl
@[simp] theorem odE73 : ctx.od 73 = od73 := rfl
theorem run73 {args : List AV} {cs : List Cont} (h : callOk 6 fp73 args cs = true) : callT ctx 73 args cs = denK ctx 73 (codeOf Tryd.f73) (entry 6 gl0 args cs fp73.sites) (finK Tryd.prog fp73 cs.length [.tmp 2]) :=
  call_run rfl rfl Tryd.func73 rfl (by kernel_rfl) Tryd.ntmps73 (by rw [Tryd.results73]) rfl rfl h
theorem ov73 {cl : CallFn} (hcl : ∀ g a c r, cl g a c = some r → callT ctx g a c = some r) {args : List AV} {cs : List Cont} (h : callOk 6 fp73 args cs = true) : Le (denK (ctx.over cl) 73 (codeOf Tryd.f73) (entry 6 gl0 args cs fp73.sites) (finK Tryd.prog fp73 cs.length [.tmp 2])) (callT ctx 73 args cs) :=
  fun r hr => by rw [run73 h]; exact denK_over hcl hr
@[simp] theorem keepE74 : ctx.keep 74 = keep74 := rfl
@[simp] theorem ghE74 : ctx.gh 74 = fun _ => [] := rfl
@[simp] theorem mdE74 : ctx.md 74 = md74 := rfl
@[simp] theorem fpE74 : ctx.fp 74 = fp74 := rfl
@[simp] theorem flE74 : ctx.fl 74 = fun _ => [] := rfl
@[simp] theorem odE74 : ctx.od 74 = od74 := rfl
theorem run74 {args : List AV} {cs : List Cont} (h : callOk 9 fp74 args cs = true) : callT ctx 74 args cs = denK ctx 74 (codeOf Tryd.f74) (entry 9 gl0 args cs fp74.sites) (finK Tryd.prog fp74 cs.length [.tmp 2]) :=
  call_run rfl rfl Tryd.func74 rfl (by kernel_rfl) Tryd.ntmps74 (by rw [Tryd.results74]) rfl rfl h
theorem ov74 {cl : CallFn} (hcl : ∀ g a c r, cl g a c = some r → callT ctx g a c = some r) {args : List AV} {cs : List Cont} (h : callOk 9 fp74 args cs = true) : Le (denK (ctx.over cl) 74 (codeOf Tryd.f74) (entry 9 gl0 args cs fp74.sites) (finK Tryd.prog fp74 cs.length [.tmp 2])) (callT ctx 74 args cs) :=
  fun r hr => by rw [run74 h]; exact denK_over hcl hr
@[simp] theorem keepE75 : ctx.keep 75 = keep75 := rfl
@[simp] theorem ghE75 : ctx.gh 75 = fun _ => [] := rfl
@[simp] theorem mdE75 : ctx.md 75 = md75 := rfl
@[simp] theorem fpE75 : ctx.fp 75 = fp75 := rfl
@[simp] theorem flE75 : ctx.fl 75 = fun _ => [] := rfl
@[simp] theorem odE75 : ctx.od 75 = od75 := rfl
theorem run75 {args : List AV} {cs : List Cont} (h : callOk 83 fp75 args cs = true) : callT ctx 75 args cs = denK ctx 75 (codeOf Tryd.f75) (entry 83 gl0 args cs fp75.sites) (finK Tryd.prog fp75 cs.length [.tmp 2, .tmp 3, .tmp 4]) :=
  call_run rfl rfl Tryd.func75 rfl (by kernel_rfl) Tryd.ntmps75 (by rw [Tryd.results75]) rfl rfl h
theorem ov75 {cl : CallFn} (hcl : ∀ g a c r, cl g a c = some r → callT ctx g a c = some r) {args : List AV} {cs : List Cont} (h : callOk 83 fp75 args cs = true) : Le (denK (ctx.over cl) 75 (codeOf Tryd.f75) (entry 83 gl0 args cs fp75.sites) (finK Tryd.prog fp75 cs.length [.tmp 2, .tmp 3, .tmp 4])) (callT ctx 75 args cs) :=
  fun r hr => by rw [run75 h]; exact denK_over hcl hr
@[simp] theorem keepE76 : ctx.keep 76 = keep76 := rfl
@[simp] theorem ghE76 : ctx.gh 76 = fun _ => [] := rfl
@[simp] theorem mdE76 : ctx.md 76 = md76 := rfl
@[simp] theorem fpE76 : ctx.fp 76 = fp76 := rfl
@[simp] theorem flE76 : ctx.fl 76 = fun _ => [] := rfl
@[simp] theorem odE76 : ctx.od 76 = od76 := rfl
theorem run76 {args : List AV} {cs : List Cont} (h : callOk 19 fp76 args cs = true) : callT ctx 76 args cs = denK ctx 76 (codeOf Tryd.f76) (entry 19 gl0 args cs fp76.sites) (finK Tryd.prog fp76 cs.length [.tmp 2]) :=
  call_run rfl rfl Tryd.func76 rfl (by kernel_rfl) Tryd.ntmps76 (by rw [Tryd.results76]) rfl rfl h
theorem ov76 {cl : CallFn} (hcl : ∀ g a c r, cl g a c = some r → callT ctx g a c = some r) {args : List AV} {cs : List Cont} (h : callOk 19 fp76 args cs = true) : Le (denK (ctx.over cl) 76 (codeOf Tryd.f76) (entry 19 gl0 args cs fp76.sites) (finK Tryd.prog fp76 cs.length [.tmp 2])) (callT ctx 76 args cs) :=
  fun r hr => by rw [run76 h]; exact denK_over hcl hr
@[simp] theorem keepE77 : ctx.keep 77 = keep77 := rfl
@[simp] theorem ghE77 : ctx.gh 77 = fun _ => [] := rfl
@[simp] theorem mdE77 : ctx.md 77 = md77 := rfl
@[simp] theorem fpE77 : ctx.fp 77 = fp77 := rfl
@[simp] theorem flE77 : ctx.fl 77 = fun _ => [] := rfl
@[simp] theorem odE77 : ctx.od 77 = od77 := rfl
theorem run77 {args : List AV} {cs : List Cont} (h : callOk 11 fp77 args cs = true) : callT ctx 77 args cs = denK ctx 77 (codeOf Tryd.f77) (entry 11 gl0 args cs fp77.sites) (finK Tryd.prog fp77 cs.length [.tmp 4]) :=
  call_run rfl rfl Tryd.func77 rfl (by kernel_rfl) Tryd.ntmps77 (by rw [Tryd.results77]) rfl rfl h
theorem ov77 {cl : CallFn} (hcl : ∀ g a c r, cl g a c = some r → callT ctx g a c = some r) {args : List AV} {cs : List Cont} (h : callOk 11 fp77 args cs = true) : Le (denK (ctx.over cl) 77 (codeOf Tryd.f77) (entry 11 gl0 args cs fp77.sites) (finK Tryd.prog fp77 cs.length [.tmp 4])) (callT ctx 77 args cs) :=
  fun r hr => by rw [run77 h]; exact denK_over hcl hr
@[simp] theorem keepE78 : ctx.keep 78 = keep78 := rfl
@[simp] theorem ghE78 : ctx.gh 78 = fun _ => [] := rfl
@[simp] theorem mdE78 : ctx.md 78 = md78 := rfl
@[simp] theorem fpE78 : ctx.fp 78 = fp78 := rfl
@[simp] theorem flE78 : ctx.fl 78 = fun _ => [] := rfl
@[simp] theorem odE78 : ctx.od 78 = od78 := rfl
theorem run78 {args : List AV} {cs : List Cont} (h : callOk 12 fp78 args cs = true) : callT ctx 78 args cs = denK ctx 78 (codeOf Tryd.f78) (entry 12 gl0 args cs fp78.sites) (finK Tryd.prog fp78 cs.length []) :=
  call_run rfl rfl Tryd.func78 rfl (by kernel_rfl) Tryd.ntmps78 (by rw [Tryd.results78]) rfl rfl h
theorem ov78 {cl : CallFn} (hcl : ∀ g a c r, cl g a c = some r → callT ctx g a c = some r) {args : List AV} {cs : List Cont} (h : callOk 12 fp78 args cs = true) : Le (denK (ctx.over cl) 78 (codeOf Tryd.f78) (entry 12 gl0 args cs fp78.sites) (finK Tryd.prog fp78 cs.length [])) (callT ctx 78 args cs) :=
  fun r hr => by rw [run78 h]; exact denK_over hcl hr
@[simp] theorem keepE79 : ctx.keep 79 = keep79 := rfl
@[simp] theorem ghE79 : ctx.gh 79 = fun _ => [] := rfl
@[simp] theorem mdE79 : ctx.md 79 = md79 := rfl
@[simp] theorem fpE79 : ctx.fp 79 = fp79 := rfl
@[simp] theorem flE79 : ctx.fl 79 = fun _ => [] := rfl
@[simp] theorem odE79 : ctx.od 79 = od79 := rfl
theorem run79 {args : List AV} {cs : List Cont} (h : callOk 13 fp79 args cs = true) : callT ctx 79 args cs = denK ctx 79 (codeOf Tryd.f79) (entry 13 gl0 args cs fp79.sites) (finK Tryd.prog fp79 cs.length [.cell 2 29]) :=
  call_run rfl rfl Tryd.func79 rfl (by kernel_rfl) Tryd.ntmps79 (by rw [Tryd.results79]) rfl rfl h
theorem ov79 {cl : CallFn} (hcl : ∀ g a c r, cl g a c = some r → callT ctx g a c = some r) {args : List AV} {cs : List Cont} (h : callOk 13 fp79 args cs = true) : Le (denK (ctx.over cl) 79 (codeOf Tryd.f79) (entry 13 gl0 args cs fp79.sites) (finK Tryd.prog fp79 cs.length [.cell 2 29])) (callT ctx 79 args cs) :=
  fun r hr => by rw [run79 h]; exact denK_over hcl hr
@[simp] theorem keepE80 : ctx.keep 80 = keep80 := rfl
@[simp] theorem ghE80 : ctx.gh 80 = fun _ => [] := rfl
@[simp] theorem mdE80 : ctx.md 80 = md80 := rfl
@[simp] theorem fpE80 : ctx.fp 80 = fp80 := rfl
@[simp] theorem flE80 : ctx.fl 80 = fun _ => [] := rfl
@[simp] theorem odE80 : ctx.od 80 = od80 := rfl
theorem run80 {args : List AV} {cs : List Cont} (h : callOk 17 fp80 args cs = true) : callT ctx 80 args cs = denK ctx 80 (codeOf Tryd.f80) (entry 17 gl0 args cs fp80.sites) (finK Tryd.prog fp80 cs.length [.cell 2 29]) :=
  call_run rfl rfl Tryd.func80 rfl (by kernel_rfl) Tryd.ntmps80 (by rw [Tryd.results80]) rfl rfl h
theorem ov80 {cl : CallFn} (hcl : ∀ g a c r, cl g a c = some r → callT ctx g a c = some r) {args : List AV} {cs : List Cont} (h : callOk 17 fp80 args cs = true) : Le (denK (ctx.over cl) 80 (codeOf Tryd.f80) (entry 17 gl0 args cs fp80.sites) (finK Tryd.prog fp80 cs.length [.cell 2 29])) (callT ctx 80 args cs) :=
  fun r hr => by rw [run80 h]; exact denK_over hcl hr
@[simp] theorem keepE81 : ctx.keep 81 = keep81 := rfl
@[simp] theorem ghE81 : ctx.gh 81 = fun _ => [] := rfl
@[simp] theorem mdE81 : ctx.md 81 = md81 := rfl
@[simp] theorem fpE81 : ctx.fp 81 = fp81 := rfl
@[simp] theorem flE81 : ctx.fl 81 = fun _ => [] := rfl
@[simp] theorem odE81 : ctx.od 81 = od81 := rfl
theorem run81 {args : List AV} {cs : List Cont} (h : callOk 94 fp81 args cs = true) : callT ctx 81 args cs = denK ctx 81 (codeOf Tryd.f81) (entry 94 gl0 args cs fp81.sites) (finK Tryd.prog fp81 cs.length []) :=
  call_run rfl rfl Tryd.func81 rfl (by kernel_rfl) Tryd.ntmps81 (by rw [Tryd.results81]) rfl rfl h
theorem ov81 {cl : CallFn} (hcl : ∀ g a c r, cl g a c = some r → callT ctx g a c = some r) {args : List AV} {cs : List Cont} (h : callOk 94 fp81 args cs = true) : Le (denK (ctx.over cl) 81 (codeOf Tryd.f81) (entry 94 gl0 args cs fp81.sites) (finK Tryd.prog fp81 cs.length [])) (callT ctx 81 args cs) :=
  fun r hr => by rw [run81 h]; exact denK_over hcl hr
@[simp] theorem keepE82 : ctx.keep 82 = keep82 := rfl
@[simp] theorem ghE82 : ctx.gh 82 = fun _ => [] := rfl
@[simp] theorem mdE82 : ctx.md 82 = md82 := rfl
@[simp] theorem fpE82 : ctx.fp 82 = fp82 := rfl
@[simp] theorem flE82 : ctx.fl 82 = fun _ => [] := rfl
@[simp] theorem odE82 : ctx.od 82 = od82 := rfl
theorem run82 {args : List AV} {cs : List Cont} (h : callOk 9 fp82 args cs = true) : callT ctx 82 args cs = denK ctx 82 (codeOf Tryd.f82) (entry 9 gl0 args cs fp82.sites) (finK Tryd.prog fp82 cs.length [.tmp 4]) :=
  call_run rfl rfl Tryd.func82 rfl (by kernel_rfl) Tryd.ntmps82 (by rw [Tryd.results82]) rfl rfl h
theorem ov82 {cl : CallFn} (hcl : ∀ g a c r, cl g a c = some r → callT ctx g a c = some r) {args : List AV} {cs : List Cont} (h : callOk 9 fp82 args cs = true) : Le (denK (ctx.over cl) 82 (codeOf Tryd.f82) (entry 9 gl0 args cs fp82.sites) (finK Tryd.prog fp82 cs.length [.tmp 4])) (callT ctx 82 args cs) :=
  fun r hr => by rw [run82 h]; exact denK_over hcl hr
@[simp] theorem keepE83 : ctx.keep 83 = keep83 := rfl
@[simp] theorem ghE83 : ctx.gh 83 = fun _ => [] := rfl
@[simp] theorem mdE83 : ctx.md 83 = md83 := rfl
@[simp] theorem fpE83 : ctx.fp 83 = fp83 := rfl
@[simp] theorem flE83 : ctx.fl 83 = fun _ => [] := rfl
@[simp] theorem odE83 : ctx.od 83 = od83 := rfl
theorem run83 {args : List AV} {cs : List Cont} (h : callOk 22 fp83 args cs = true) : callT ctx 83 args cs = denK ctx 83 (codeOf Tryd.f83) (entry 22 gl0 args cs fp83.sites) (finK Tryd.prog fp83 cs.length [.tmp 4]) :=
  call_run rfl rfl Tryd.func83 rfl (by kernel_rfl) Tryd.ntmps83 (by rw [Tryd.results83]) rfl rfl h
theorem ov83 {cl : CallFn} (hcl : ∀ g a c r, cl g a c = some r → callT ctx g a c = some r) {args : List AV} {cs : List Cont} (h : callOk 22 fp83 args cs = true) : Le (denK (ctx.over cl) 83 (codeOf Tryd.f83) (entry 22 gl0 args cs fp83.sites) (finK Tryd.prog fp83 cs.length [.tmp 4])) (callT ctx 83 args cs) :=
  fun r hr => by rw [run83 h]; exact denK_over hcl hr
@[simp] theorem keepE84 : ctx.keep 84 = keep84 := rfl
@[simp] theorem ghE84 : ctx.gh 84 = fun _ => [] := rfl
@[simp] theorem mdE84 : ctx.md 84 = md84 := rfl
@[simp] theorem fpE84 : ctx.fp 84 = fp84 := rfl
@[simp] theorem flE84 : ctx.fl 84 = fun _ => [] := rfl
@[simp] theorem odE84 : ctx.od 84 = od84 := rfl
theorem run84 {args : List AV} {cs : List Cont} (h : callOk 19 fp84 args cs = true) : callT ctx 84 args cs = denK ctx 84 (codeOf Tryd.f84) (entry 19 gl0 args cs fp84.sites) (finK Tryd.prog fp84 cs.length [.cell 2 40]) :=
  call_run rfl rfl Tryd.func84 rfl (by kernel_rfl) Tryd.ntmps84 (by rw [Tryd.results84]) rfl rfl h
theorem ov84 {cl : CallFn} (hcl : ∀ g a c r, cl g a c = some r → callT ctx g a c = some r) {args : List AV} {cs : List Cont} (h : callOk 19 fp84 args cs = true) : Le (denK (ctx.over cl) 84 (codeOf Tryd.f84) (entry 19 gl0 args cs fp84.sites) (finK Tryd.prog fp84 cs.length [.cell 2 40])) (callT ctx 84 args cs) :=
  fun r hr => by rw [run84 h]; exact denK_over hcl hr
@[simp] theorem keepE91 : ctx.keep 91 = keep91 := rfl
@[simp] theorem ghE91 : ctx.gh 91 = fun _ => [] := rfl
@[simp] theorem mdE91 : ctx.md 91 = md91 := rfl
@[simp] theorem fpE91 : ctx.fp 91 = fp91 := rfl
@[simp] theorem flE91 : ctx.fl 91 = fun _ => [] := rfl
@[simp] theorem odE91 : ctx.od 91 = od91 := rfl
theorem run91 {args : List AV} {cs : List Cont} (h : callOk 38 fp91 args cs = true) : callT ctx 91 args cs = denK ctx 91 (codeOf Tryd.f91) (entry 38 gl0 args cs fp91.sites) (finK Tryd.prog fp91 cs.length [.tmp 4]) :=
  call_run rfl rfl Tryd.func91 rfl (by kernel_rfl) Tryd.ntmps91 (by rw [Tryd.results91]) rfl rfl h
theorem ov91 {cl : CallFn} (hcl : ∀ g a c r, cl g a c = some r → callT ctx g a c = some r) {args : List AV} {cs : List Cont} (h : callOk 38 fp91 args cs = true) : Le (denK (ctx.over cl) 91 (codeOf Tryd.f91) (entry 38 gl0 args cs fp91.sites) (finK Tryd.prog fp91 cs.length [.tmp 4])) (callT ctx 91 args cs) :=
  fun r hr => by rw [run91 h]; exact denK_over hcl hr
@[simp] theorem keepE92 : ctx.keep 92 = keep92 := rfl
@[simp] theorem ghE92 : ctx.gh 92 = fun _ => [] := rfl
@[simp] theorem mdE92 : ctx.md 92 = md92 := rfl
@[simp] theorem fpE92 : ctx.fp 92 = fp92 := rfl
@[simp] theorem flE92 : ctx.fl 92 = fun _ => [] := rfl
@[simp] theorem odE92 : ctx.od 92 = od92 := rfl
theorem run92 {args : List AV} {cs : List Cont} (h : callOk 32 fp92 args cs = true) : callT ctx 92 args cs = denK ctx 92 (codeOf Tryd.f92) (entry 32 gl0 args cs fp92.sites) (finK Tryd.prog fp92 cs.length [.tmp 6]) :=
  call_run rfl rfl Tryd.func92 rfl (by kernel_rfl) Tryd.ntmps92 (by rw [Tryd.results92]) rfl rfl h
theorem ov92 {cl : CallFn} (hcl : ∀ g a c r, cl g a c = some r → callT ctx g a c = some r) {args : List AV} {cs : List Cont} (h : callOk 32 fp92 args cs = true) : Le (denK (ctx.over cl) 92 (codeOf Tryd.f92) (entry 32 gl0 args cs fp92.sites) (finK Tryd.prog fp92 cs.length [.tmp 6])) (callT ctx 92 args cs) :=
  fun r hr => by rw [run92 h]; exact denK_over hcl hr
@[simp] theorem keepE93 : ctx.keep 93 = keep93 := rfl
@[simp] theorem ghE93 : ctx.gh 93 = fun _ => [] := rfl
@[simp] theorem mdE93 : ctx.md 93 = md93 := rfl
@[simp] theorem fpE93 : ctx.fp 93 = fp93 := rfl
@[simp] theorem flE93 : ctx.fl 93 = fun _ => [] := rfl
@[simp] theorem odE93 : ctx.od 93 = od93 := rfl
theorem run93 {args : List AV} {cs : List Cont} (h : callOk 32 fp93 args cs = true) : callT ctx 93 args cs = denK ctx 93 (codeOf Tryd.f93) (entry 32 gl0 args cs fp93.sites) (finK Tryd.prog fp93 cs.length [.tmp 6]) :=
  call_run rfl rfl Tryd.func93 rfl (by kernel_rfl) Tryd.ntmps93 (by rw [Tryd.results93]) rfl rfl h
theorem ov93 {cl : CallFn} (hcl : ∀ g a c r, cl g a c = some r → callT ctx g a c = some r) {args : List AV} {cs : List Cont} (h : callOk 32 fp93 args cs = true) : Le (denK (ctx.over cl) 93 (codeOf Tryd.f93) (entry 32 gl0 args cs fp93.sites) (finK Tryd.prog fp93 cs.length [.tmp 6])) (callT ctx 93 args cs) :=
  fun r hr => by rw [run93 h]; exact denK_over hcl hr
@[simp] theorem keepE94 : ctx.keep 94 = keep94 := rfl
@[simp] theorem ghE94 : ctx.gh 94 = fun _ => [] := rfl
@[simp] theorem mdE94 : ctx.md 94 = md94 := rfl
@[simp] theorem fpE94 : ctx.fp 94 = fp94 := rfl
@[simp] theorem flE94 : ctx.fl 94 = fun _ => [] := rfl
@[simp] theorem odE94 : ctx.od 94 = od94 := rfl
theorem run94 {args : List AV} {cs : List Cont} (h : callOk 8 fp94 args cs = true) : callT ctx 94 args cs = denK ctx 94 (codeOf Tryd.f94) (entry 8 gl0 args cs fp94.sites) (finK Tryd.prog fp94 cs.length [.tmp 4]) :=
  call_run rfl rfl Tryd.func94 rfl (by kernel_rfl) Tryd.ntmps94 (by rw [Tryd.results94]) rfl rfl h
theorem ov94 {cl : CallFn} (hcl : ∀ g a c r, cl g a c = some r → callT ctx g a c = some r) {args : List AV} {cs : List Cont} (h : callOk 8 fp94 args cs = true) : Le (denK (ctx.over cl) 94 (codeOf Tryd.f94) (entry 8 gl0 args cs fp94.sites) (finK Tryd.prog fp94 cs.length [.tmp 4])) (callT ctx 94 args cs) :=
  fun r hr => by rw [run94 h]; exact denK_over hcl hr
@[simp] theorem keepE95 : ctx.keep 95 = keep95 := rfl
@[simp] theorem ghE95 : ctx.gh 95 = fun _ => [] := rfl
@[simp] theorem mdE95 : ctx.md 95 = md95 := rfl
@[simp] theorem fpE95 : ctx.fp 95 = fp95 := rfl
@[simp] theorem flE95 : ctx.fl 95 = fun _ => [] := rfl
@[simp] theorem odE95 : ctx.od 95 = od95 := rfl
theorem run95 {args : List AV} {cs : List Cont} (h : callOk 26 fp95 args cs = true) : callT ctx 95 args cs = denK ctx 95 (codeOf Tryd.f95) (entry 26 gl0 args cs fp95.sites) (finK Tryd.prog fp95 cs.length [.tmp 4]) :=
  call_run rfl rfl Tryd.func95 rfl (by kernel_rfl) Tryd.ntmps95 (by rw [Tryd.results95]) rfl rfl h
theorem ov95 {cl : CallFn} (hcl : ∀ g a c r, cl g a c = some r → callT ctx g a c = some r) {args : List AV} {cs : List Cont} (h : callOk 26 fp95 args cs = true) : Le (denK (ctx.over cl) 95 (codeOf Tryd.f95) (entry 26 gl0 args cs fp95.sites) (finK Tryd.prog fp95 cs.length [.tmp 4])) (callT ctx 95 args cs) :=
  fun r hr => by rw [run95 h]; exact denK_over hcl hr
@[simp] theorem keepE96 : ctx.keep 96 = keep96 := rfl
@[simp] theorem ghE96 : ctx.gh 96 = fun _ => [] := rfl
@[simp] theorem mdE96 : ctx.md 96 = md96 := rfl
@[simp] theorem fpE96 : ctx.fp 96 = fp96 := rfl
@[simp] theorem flE96 : ctx.fl 96 = fun _ => [] := rfl
@[simp] theorem odE96 : ctx.od 96 = od96 := rfl
theorem run96 {args : List AV} {cs : List Cont} (h : callOk 32 fp96 args cs = true) : callT ctx 96 args cs = denK ctx 96 (codeOf Tryd.f96) (entry 32 gl0 args cs fp96.sites) (finK Tryd.prog fp96 cs.length [.tmp 6]) :=
  call_run rfl rfl Tryd.func96 rfl (by kernel_rfl) Tryd.ntmps96 (by rw [Tryd.results96]) rfl rfl h
theorem ov96 {cl : CallFn} (hcl : ∀ g a c r, cl g a c = some r → callT ctx g a c = some r) {args : List AV} {cs : List Cont} (h : callOk 32 fp96 args cs = true) : Le (denK (ctx.over cl) 96 (codeOf Tryd.f96) (entry 32 gl0 args cs fp96.sites) (finK Tryd.prog fp96 cs.length [.tmp 6])) (callT ctx 96 args cs) :=
  fun r hr => by rw [run96 h]; exact denK_over hcl hr
@[simp] theorem keepE106 : ctx.keep 106 = keep106 := rfl
@[simp] theorem ghE106 : ctx.gh 106 = fun _ => [] := rfl
@[simp] theorem mdE106 : ctx.md 106 = md106 := rfl
@[simp] theorem fpE106 : ctx.fp 106 = fp106 := rfl
@[simp] theorem flE106 : ctx.fl 106 = fun _ => [] := rfl
@[simp] theorem odE106 : ctx.od 106 = od106 := rfl
theorem run106 {args : List AV} {cs : List Cont} (h : callOk 18 fp106 args cs = true) : callT ctx 106 args cs = denK ctx 106 (codeOf Tryd.f106) (entry 18 gl0 args cs fp106.sites) (finK Tryd.prog fp106 cs.length [.tmp 4]) :=
  call_run rfl rfl Tryd.func106 rfl (by kernel_rfl) Tryd.ntmps106 (by rw [Tryd.results106]) rfl rfl h
theorem ov106 {cl : CallFn} (hcl : ∀ g a c r, cl g a c = some r → callT ctx g a c = some r) {args : List AV} {cs : List Cont} (h : callOk 18 fp106 args cs = true) : Le (denK (ctx.over cl) 106 (codeOf Tryd.f106) (entry 18 gl0 args cs fp106.sites) (finK Tryd.prog fp106 cs.length [.tmp 4])) (callT ctx 106 args cs) :=
  fun r hr => by rw [run106 h]; exact denK_over hcl hr
@[simp] theorem keepE107 : ctx.keep 107 = keep107 := rfl
@[simp] theorem ghE107 : ctx.gh 107 = fun _ => [] := rfl
@[simp] theorem mdE107 : ctx.md 107 = md107 := rfl
@[simp] theorem fpE107 : ctx.fp 107 = fp107 := rfl
@[simp] theorem flE107 : ctx.fl 107 = fun _ => [] := rfl
@[simp] theorem odE107 : ctx.od 107 = od107 := rfl
@[simp] theorem orc_run107 {args : List AV} {cs : List Cont} : callT ctx 107 args cs = orcAns (liftO ibO) args cs := callT_orc rfl rfl
@[simp] theorem keepE108 : ctx.keep 108 = keep108 := rfl
@[simp] theorem ghE108 : ctx.gh 108 = fun _ => [] := rfl
@[simp] theorem mdE108 : ctx.md 108 = md108 := rfl
@[simp] theorem fpE108 : ctx.fp 108 = fp108 := rfl
@[simp] theorem flE108 : ctx.fl 108 = fun _ => [] := rfl
@[simp] theorem odE108 : ctx.od 108 = od108 := rfl
theorem run108 {args : List AV} {cs : List Cont} (h : callOk 143 fp108 args cs = true) : callT ctx 108 args cs = denK ctx 108 (codeOf Tryd.f108) (entry 143 gl0 args cs fp108.sites) (finK Tryd.prog fp108 cs.length [.tmp 4]) :=
  call_run rfl rfl Tryd.func108 rfl (by kernel_rfl) Tryd.ntmps108 (by rw [Tryd.results108]) rfl rfl h
theorem ov108 {cl : CallFn} (hcl : ∀ g a c r, cl g a c = some r → callT ctx g a c = some r) {args : List AV} {cs : List Cont} (h : callOk 143 fp108 args cs = true) : Le (denK (ctx.over cl) 108 (codeOf Tryd.f108) (entry 143 gl0 args cs fp108.sites) (finK Tryd.prog fp108 cs.length [.tmp 4])) (callT ctx 108 args cs) :=
  fun r hr => by rw [run108 h]; exact denK_over hcl hr
@[simp] theorem keepE109 : ctx.keep 109 = keep109 := rfl
@[simp] theorem ghE109 : ctx.gh 109 = fun _ => [] := rfl
@[simp] theorem mdE109 : ctx.md 109 = md109 := rfl
@[simp] theorem fpE109 : ctx.fp 109 = fp109 := rfl
@[simp] theorem flE109 : ctx.fl 109 = fun _ => [] := rfl
@[simp] theorem odE109 : ctx.od 109 = od109 := rfl
theorem run109 {args : List AV} {cs : List Cont} (h : callOk 9 fp109 args cs = true) : callT ctx 109 args cs = denK ctx 109 (codeOf Tryd.f109) (entry 9 gl0 args cs fp109.sites) (finK Tryd.prog fp109 cs.length [.tmp 4]) :=
  call_run rfl rfl Tryd.func109 rfl (by kernel_rfl) Tryd.ntmps109 (by rw [Tryd.results109]) rfl rfl h
theorem ov109 {cl : CallFn} (hcl : ∀ g a c r, cl g a c = some r → callT ctx g a c = some r) {args : List AV} {cs : List Cont} (h : callOk 9 fp109 args cs = true) : Le (denK (ctx.over cl) 109 (codeOf Tryd.f109) (entry 9 gl0 args cs fp109.sites) (finK Tryd.prog fp109 cs.length [.tmp 4])) (callT ctx 109 args cs) :=
  fun r hr => by rw [run109 h]; exact denK_over hcl hr
@[simp] theorem keepE110 : ctx.keep 110 = keep110 := rfl
@[simp] theorem ghE110 : ctx.gh 110 = fun _ => [] := rfl
@[simp] theorem mdE110 : ctx.md 110 = md110 := rfl
@[simp] theorem fpE110 : ctx.fp 110 = fp110 := rfl
@[simp] theorem flE110 : ctx.fl 110 = fun _ => [] := rfl
@[simp] theorem odE110 : ctx.od 110 = od110 := rfl
theorem run110 {args : List AV} {cs : List Cont} (h : callOk 106 fp110 args cs = true) : callT ctx 110 args cs = denK ctx 110 (codeOf Tryd.f110) (entry 106 gl0 args cs fp110.sites) (finK Tryd.prog fp110 cs.length [.tmp 2]) :=
  call_run rfl rfl Tryd.func110 rfl (by kernel_rfl) Tryd.ntmps110 (by rw [Tryd.results110]) rfl rfl h
theorem ov110 {cl : CallFn} (hcl : ∀ g a c r, cl g a c = some r → callT ctx g a c = some r) {args : List AV} {cs : List Cont} (h : callOk 106 fp110 args cs = true) : Le (denK (ctx.over cl) 110 (codeOf Tryd.f110) (entry 106 gl0 args cs fp110.sites) (finK Tryd.prog fp110 cs.length [.tmp 2])) (callT ctx 110 args cs) :=
  fun r hr => by rw [run110 h]; exact denK_over hcl hr
@[simp] theorem keepE111 : ctx.keep 111 = keep111 := rfl
@[simp] theorem ghE111 : ctx.gh 111 = fun _ => [] := rfl
@[simp] theorem mdE111 : ctx.md 111 = md111 := rfl
@[simp] theorem fpE111 : ctx.fp 111 = fp111 := rfl
@[simp] theorem flE111 : ctx.fl 111 = fun _ => [] := rfl
@[simp] theorem odE111 : ctx.od 111 = od111 := rfl
theorem run111 {args : List AV} {cs : List Cont} (h : callOk 8 fp111 args cs = true) : callT ctx 111 args cs = denK ctx 111 (codeOf Tryd.f111) (entry 8 gl0 args cs fp111.sites) (finK Tryd.prog fp111 cs.length [.tmp 3]) :=
  call_run rfl rfl Tryd.func111 rfl (by kernel_rfl) Tryd.ntmps111 (by rw [Tryd.results111]) rfl rfl h
theorem ov111 {cl : CallFn} (hcl : ∀ g a c r, cl g a c = some r → callT ctx g a c = some r) {args : List AV} {cs : List Cont} (h : callOk 8 fp111 args cs = true) : Le (denK (ctx.over cl) 111 (codeOf Tryd.f111) (entry 8 gl0 args cs fp111.sites) (finK Tryd.prog fp111 cs.length [.tmp 3])) (callT ctx 111 args cs) :=
  fun r hr => by rw [run111 h]; exact denK_over hcl hr
@[simp] theorem keepE112 : ctx.keep 112 = keep112 := rfl
@[simp] theorem ghE112 : ctx.gh 112 = fun _ => [] := rfl
@[simp] theorem mdE112 : ctx.md 112 = md112 := rfl
@[simp] theorem fpE112 : ctx.fp 112 = fp112 := rfl
@[simp] theorem flE112 : ctx.fl 112 = fun _ => [] := rfl
@[simp] theorem odE112 : ctx.od 112 = od112 := rfl
theorem run112 {args : List AV} {cs : List Cont} (h : callOk 20 fp112 args cs = true) : callT ctx 112 args cs = denK ctx 112 (codeOf Tryd.f112) (entry 20 gl0 args cs fp112.sites) (finK Tryd.prog fp112 cs.length [.tmp 2]) :=
  call_run rfl rfl Tryd.func112 rfl (by kernel_rfl) Tryd.ntmps112 (by rw [Tryd.results112]) rfl rfl h
theorem ov112 {cl : CallFn} (hcl : ∀ g a c r, cl g a c = some r → callT ctx g a c = some r) {args : List AV} {cs : List Cont} (h : callOk 20 fp112 args cs = true) : Le (denK (ctx.over cl) 112 (codeOf Tryd.f112) (entry 20 gl0 args cs fp112.sites) (finK Tryd.prog fp112 cs.length [.tmp 2])) (callT ctx 112 args cs) :=
  fun r hr => by rw [run112 h]; exact denK_over hcl hr
@[simp] theorem keepE113 : ctx.keep 113 = keep113 := rfl
@[simp] theorem ghE113 : ctx.gh 113 = fun _ => [] := rfl
@[simp] theorem mdE113 : ctx.md 113 = md113 := rfl
@[simp] theorem fpE113 : ctx.fp 113 = fp113 := rfl
@[simp] theorem flE113 : ctx.fl 113 = fun _ => [] := rfl
@[simp] theorem odE113 : ctx.od 113 = od113 := rfl
theorem run113 {args : List AV} {cs : List Cont} (h : callOk 36 fp113 args cs = true) : callT ctx 113 args cs = denK ctx 113 (codeOf Tryd.f113) (entry 36 gl0 args cs fp113.sites) (finK Tryd.prog fp113 cs.length [.cell 2 180]) :=
  call_run rfl rfl Tryd.func113 rfl (by kernel_rfl) Tryd.ntmps113 (by rw [Tryd.results113]) rfl rfl h
theorem ov113 {cl : CallFn} (hcl : ∀ g a c r, cl g a c = some r → callT ctx g a c = some r) {args : List AV} {cs : List Cont} (h : callOk 36 fp113 args cs = true) : Le (denK (ctx.over cl) 113 (codeOf Tryd.f113) (entry 36 gl0 args cs fp113.sites) (finK Tryd.prog fp113 cs.length [.cell 2 180])) (callT ctx 113 args cs) :=
  fun r hr => by rw [run113 h]; exact denK_over hcl hr
@[simp] theorem keepE114 : ctx.keep 114 = keep114 := rfl
@[simp] theorem ghE114 : ctx.gh 114 = fun _ => [] := rfl
@[simp] theorem mdE114 : ctx.md 114 = md114 := rfl
@[simp] theorem fpE114 : ctx.fp 114 = fp114 := rfl
@[simp] theorem flE114 : ctx.fl 114 = fun _ => [] := rfl
@[simp] theorem odE114 : ctx.od 114 = od114 := rfl
theorem run114 {args : List AV} {cs : List Cont} (h : callOk 12 fp114 args cs = true) : callT ctx 114 args cs = denK ctx 114 (codeOf Tryd.f114) (entry 12 gl0 args cs fp114.sites) (finK Tryd.prog fp114 cs.length [.tmp 2, .tmp 3]) :=
  call_run rfl rfl Tryd.func114 rfl (by kernel_rfl) Tryd.ntmps114 (by rw [Tryd.results114]) rfl rfl h
theorem ov114 {cl : CallFn} (hcl : ∀ g a c r, cl g a c = some r → callT ctx g a c = some r) {args : List AV} {cs : List Cont} (h : callOk 12 fp114 args cs = true) : Le (denK (ctx.over cl) 114 (codeOf Tryd.f114) (entry 12 gl0 args cs fp114.sites) (finK Tryd.prog fp114 cs.length [.tmp 2, .tmp 3])) (callT ctx 114 args cs) :=
  fun r hr => by rw [run114 h]; exact denK_over hcl hr
@[simp] theorem keepE115 : ctx.keep 115 = keep115 := rfl
@[simp] theorem ghE115 : ctx.gh 115 = fun _ => [] := rfl
@[simp] theorem mdE115 : ctx.md 115 = md115 := rfl
@[simp] theorem fpE115 : ctx.fp 115 = fp115 := rfl
@[simp] theorem flE115 : ctx.fl 115 = fun _ => [] := rfl
@[simp] theorem odE115 : ctx.od 115 = od115 := rfl
theorem run115 {args : List AV} {cs : List Cont} (h : callOk 19 fp115 args cs = true) : callT ctx 115 args cs = denK ctx 115 (codeOf Tryd.f115) (entry 19 gl0 args cs fp115.sites) (finK Tryd.prog fp115 cs.length [.tmp 4]) :=
  call_run rfl rfl Tryd.func115 rfl (by kernel_rfl) Tryd.ntmps115 (by rw [Tryd.results115]) rfl rfl h
theorem ov115 {cl : CallFn} (hcl : ∀ g a c r, cl g a c = some r → callT ctx g a c = some r) {args : List AV} {cs : List Cont} (h : callOk 19 fp115 args cs = true) : Le (denK (ctx.over cl) 115 (codeOf Tryd.f115) (entry 19 gl0 args cs fp115.sites) (finK Tryd.prog fp115 cs.length [.tmp 4])) (callT ctx 115 args cs) :=
  fun r hr => by rw [run115 h]; exact denK_over hcl hr
@[simp] theorem keepE116 : ctx.keep 116 = keep116 := rfl
@[simp] theorem ghE116 : ctx.gh 116 = fun _ => [] := rfl
@[simp] theorem mdE116 : ctx.md 116 = md116 := rfl
@[simp] theorem fpE116 : ctx.fp 116 = fp116 := rfl
@[simp] theorem flE116 : ctx.fl 116 = fun _ => [] := rfl
@[simp] theorem odE116 : ctx.od 116 = od116 := rfl
theorem run116 {args : List AV} {cs : List Cont} (h : callOk 17 fp116 args cs = true) : callT ctx 116 args cs = denK ctx 116 (codeOf Tryd.f116) (entry 17 gl0 args cs fp116.sites) (finK Tryd.prog fp116 cs.length []) :=
  call_run rfl rfl Tryd.func116 rfl (by kernel_rfl) Tryd.ntmps116 (by rw [Tryd.results116]) rfl rfl h
theorem ov116 {cl : CallFn} (hcl : ∀ g a c r, cl g a c = some r → callT ctx g a c = some r) {args : List AV} {cs : List Cont} (h : callOk 17 fp116 args cs = true) : Le (denK (ctx.over cl) 116 (codeOf Tryd.f116) (entry 17 gl0 args cs fp116.sites) (finK Tryd.prog fp116 cs.length [])) (callT ctx 116 args cs) :=
  fun r hr => by rw [run116 h]; exact denK_over hcl hr
@[simp] theorem keepE117 : ctx.keep 117 = keep117 := rfl
@[simp] theorem ghE117 : ctx.gh 117 = fun _ => [] := rfl
@[simp] theorem mdE117 : ctx.md 117 = md117 := rfl
@[simp] theorem fpE117 : ctx.fp 117 = fp117 := rfl
@[simp] theorem flE117 : ctx.fl 117 = fun _ => [] := rfl
@[simp] theorem odE117 : ctx.od 117 = od117 := rfl
theorem run117 {args : List AV} {cs : List Cont} (h : callOk 91 fp117 args cs = true) : callT ctx 117 args cs = denK ctx 117 (codeOf Tryd.f117) (entry 91 gl0 args cs fp117.sites) (finK Tryd.prog fp117 cs.length [.cell 2 40]) :=
  call_run rfl rfl Tryd.func117 rfl (by kernel_rfl) Tryd.ntmps117 (by rw [Tryd.results117]) rfl rfl h
theorem ov117 {cl : CallFn} (hcl : ∀ g a c r, cl g a c = some r → callT ctx g a c = some r) {args : List AV} {cs : List Cont} (h : callOk 91 fp117 args cs = true) : Le (denK (ctx.over cl) 117 (codeOf Tryd.f117) (entry 91 gl0 args cs fp117.sites) (finK Tryd.prog fp117 cs.length [.cell 2 40])) (callT ctx 117 args cs) :=
  fun r hr => by rw [run117 h]; exact denK_over hcl hr
@[simp] theorem keepE118 : ctx.keep 118 = keep118 := rfl
@[simp] theorem ghE118 : ctx.gh 118 = fun _ => [] := rfl
@[simp] theorem mdE118 : ctx.md 118 = md118 := rfl
@[simp] theorem fpE118 : ctx.fp 118 = fp118 := rfl
@[simp] theorem flE118 : ctx.fl 118 = fun _ => [] := rfl
@[simp] theorem odE118 : ctx.od 118 = od118 := rfl
theorem run118 {args : List AV} {cs : List Cont} (h : callOk 9 fp118 args cs = true) : callT ctx 118 args cs = denK ctx 118 (codeOf Tryd.f118) (entry 9 gl0 args cs fp118.sites) (finK Tryd.prog fp118 cs.length []) :=
  call_run rfl rfl Tryd.func118 rfl (by kernel_rfl) Tryd.ntmps118 (by rw [Tryd.results118]) rfl rfl h
theorem ov118 {cl : CallFn} (hcl : ∀ g a c r, cl g a c = some r → callT ctx g a c = some r) {args : List AV} {cs : List Cont} (h : callOk 9 fp118 args cs = true) : Le (denK (ctx.over cl) 118 (codeOf Tryd.f118) (entry 9 gl0 args cs fp118.sites) (finK Tryd.prog fp118 cs.length [])) (callT ctx 118 args cs) :=
  fun r hr => by rw [run118 h]; exact denK_over hcl hr
@[simp] theorem keepE123 : ctx.keep 123 = keep123 := rfl
@[simp] theorem ghE123 : ctx.gh 123 = fun _ => [] := rfl
@[simp] theorem mdE123 : ctx.md 123 = md123 := rfl
@[simp] theorem fpE123 : ctx.fp 123 = fp123 := rfl
@[simp] theorem flE123 : ctx.fl 123 = fun _ => [] := rfl
@[simp] theorem odE123 : ctx.od 123 = od123 := rfl
theorem run123 {args : List AV} {cs : List Cont} (h : callOk 26 fp123 args cs = true) : callT ctx 123 args cs = denK ctx 123 (codeOf Tryd.f123) (entry 26 gl0 args cs fp123.sites) (finK Tryd.prog fp123 cs.length [.tmp 4]) :=
  call_run rfl rfl Tryd.func123 rfl (by kernel_rfl) Tryd.ntmps123 (by rw [Tryd.results123]) rfl rfl h
theorem ov123 {cl : CallFn} (hcl : ∀ g a c r, cl g a c = some r → callT ctx g a c = some r) {args : List AV} {cs : List Cont} (h : callOk 26 fp123 args cs = true) : Le (denK (ctx.over cl) 123 (codeOf Tryd.f123) (entry 26 gl0 args cs fp123.sites) (finK Tryd.prog fp123 cs.length [.tmp 4])) (callT ctx 123 args cs) :=
  fun r hr => by rw [run123 h]; exact denK_over hcl hr
@[simp] theorem keepE137 : ctx.keep 137 = keep137 := rfl
@[simp] theorem ghE137 : ctx.gh 137 = fun _ => [] := rfl
@[simp] theorem mdE137 : ctx.md 137 = md137 := rfl
@[simp] theorem fpE137 : ctx.fp 137 = fp137 := rfl
@[simp] theorem flE137 : ctx.fl 137 = fun _ => [] := rfl
@[simp] theorem odE137 : ctx.od 137 = od137 := rfl
theorem run137 {args : List AV} {cs : List Cont} (h : callOk 6 fp137 args cs = true) : callT ctx 137 args cs = denK ctx 137 (codeOf Tryd.f137) (entry 6 gl0 args cs fp137.sites) (finK Tryd.prog fp137 cs.length [.tmp 2]) :=
  call_run rfl rfl Tryd.func137 rfl (by kernel_rfl) Tryd.ntmps137 (by rw [Tryd.results137]) rfl rfl h
theorem ov137 {cl : CallFn} (hcl : ∀ g a c r, cl g a c = some r → callT ctx g a c = some r) {args : List AV} {cs : List Cont} (h : callOk 6 fp137 args cs = true) : Le (denK (ctx.over cl) 137 (codeOf Tryd.f137) (entry 6 gl0 args cs fp137.sites) (finK Tryd.prog fp137 cs.length [.tmp 2])) (callT ctx 137 args cs) :=
  fun r hr => by rw [run137 h]; exact denK_over hcl hr
@[simp] theorem keepE138 : ctx.keep 138 = keep138 := rfl
@[simp] theorem ghE138 : ctx.gh 138 = fun _ => [] := rfl
@[simp] theorem mdE138 : ctx.md 138 = md138 := rfl
@[simp] theorem fpE138 : ctx.fp 138 = fp138 := rfl
@[simp] theorem flE138 : ctx.fl 138 = fun _ => [] := rfl
@[simp] theorem odE138 : ctx.od 138 = od138 := rfl
theorem run138 {args : List AV} {cs : List Cont} (h : callOk 81 fp138 args cs = true) : callT ctx 138 args cs = denK ctx 138 (codeOf Tryd.f138) (entry 81 gl0 args cs fp138.sites) (finK Tryd.prog fp138 cs.length [.tmp 4]) :=
  call_run rfl rfl Tryd.func138 rfl (by kernel_rfl) Tryd.ntmps138 (by rw [Tryd.results138]) rfl rfl h
theorem ov138 {cl : CallFn} (hcl : ∀ g a c r, cl g a c = some r → callT ctx g a c = some r) {args : List AV} {cs : List Cont} (h : callOk 81 fp138 args cs = true) : Le (denK (ctx.over cl) 138 (codeOf Tryd.f138) (entry 81 gl0 args cs fp138.sites) (finK Tryd.prog fp138 cs.length [.tmp 4])) (callT ctx 138 args cs) :=
  fun r hr => by rw [run138 h]; exact denK_over hcl hr
@[simp] theorem keepE139 : ctx.keep 139 = keep139 := rfl
@[simp] theorem ghE139 : ctx.gh 139 = fun _ => [] := rfl
@[simp] theorem mdE139 : ctx.md 139 = md139 := rfl
@[simp] theorem fpE139 : ctx.fp 139 = fp139 := rfl
@[simp] theorem flE139 : ctx.fl 139 = fun _ => [] := rfl
@[simp] theorem odE139 : ctx.od 139 = od139 := rfl
theorem run139 {args : List AV} {cs : List Cont} (h : callOk 19 fp139 args cs = true) : callT ctx 139 args cs = denK ctx 139 (codeOf Tryd.f139) (entry 19 gl0 args cs fp139.sites) (finK Tryd.prog fp139 cs.length [.tmp 4]) :=
  call_run rfl rfl Tryd.func139 rfl (by kernel_rfl) Tryd.ntmps139 (by rw [Tryd.results139]) rfl rfl h
theorem ov139 {cl : CallFn} (hcl : ∀ g a c r, cl g a c = some r → callT ctx g a c = some r) {args : List AV} {cs : List Cont} (h : callOk 19 fp139 args cs = true) : Le (denK (ctx.over cl) 139 (codeOf Tryd.f139) (entry 19 gl0 args cs fp139.sites) (finK Tryd.prog fp139 cs.length [.tmp 4])) (callT ctx 139 args cs) :=
  fun r hr => by rw [run139 h]; exact denK_over hcl hr
@[simp] theorem keepE140 : ctx.keep 140 = keep140 := rfl
@[simp] theorem ghE140 : ctx.gh 140 = fun _ => [] := rfl
@[simp] theorem mdE140 : ctx.md 140 = md140 := rfl
@[simp] theorem fpE140 : ctx.fp 140 = fp140 := rfl
@[simp] theorem flE140 : ctx.fl 140 = fun _ => [] := rfl
@[simp] theorem odE140 : ctx.od 140 = od140 := rfl
theorem run140 {args : List AV} {cs : List Cont} (h : callOk 19 fp140 args cs = true) : callT ctx 140 args cs = denK ctx 140 (codeOf Tryd.f140) (entry 19 gl0 args cs fp140.sites) (finK Tryd.prog fp140 cs.length [.tmp 2]) :=
  call_run rfl rfl Tryd.func140 rfl (by kernel_rfl) Tryd.ntmps140 (by rw [Tryd.results140]) rfl rfl h
theorem ov140 {cl : CallFn} (hcl : ∀ g a c r, cl g a c = some r → callT ctx g a c = some r) {args : List AV} {cs : List Cont} (h : callOk 19 fp140 args cs = true) : Le (denK (ctx.over cl) 140 (codeOf Tryd.f140) (entry 19 gl0 args cs fp140.sites) (finK Tryd.prog fp140 cs.length [.tmp 2])) (callT ctx 140 args cs) :=
  fun r hr => by rw [run140 h]; exact denK_over hcl hr
@[simp] theorem keepE141 : ctx.keep 141 = keep141 := rfl
@[simp] theorem ghE141 : ctx.gh 141 = fun _ => [] := rfl
@[simp] theorem mdE141 : ctx.md 141 = md141 := rfl
@[simp] theorem fpE141 : ctx.fp 141 = fp141 := rfl
@[simp] theorem flE141 : ctx.fl 141 = fun _ => [] := rfl
@[simp] theorem odE141 : ctx.od 141 = od141 := rfl
theorem run141 {args : List AV} {cs : List Cont} (h : callOk 10 fp141 args cs = true) : callT ctx 141 args cs = denK ctx 141 (codeOf Tryd.f141) (entry 10 gl0 args cs fp141.sites) (finK Tryd.prog fp141 cs.length [.tmp 2, .tmp 3]) :=
  call_run rfl rfl Tryd.func141 rfl (by kernel_rfl) Tryd.ntmps141 (by rw [Tryd.results141]) rfl rfl h
theorem ov141 {cl : CallFn} (hcl : ∀ g a c r, cl g a c = some r → callT ctx g a c = some r) {args : List AV} {cs : List Cont} (h : callOk 10 fp141 args cs = true) : Le (denK (ctx.over cl) 141 (codeOf Tryd.f141) (entry 10 gl0 args cs fp141.sites) (finK Tryd.prog fp141 cs.length [.tmp 2, .tmp 3])) (callT ctx 141 args cs) :=
  fun r hr => by rw [run141 h]; exact denK_over hcl hr
@[simp] theorem keepE142 : ctx.keep 142 = keep142 := rfl
@[simp] theorem ghE142 : ctx.gh 142 = fun _ => [] := rfl
@[simp] theorem mdE142 : ctx.md 142 = md142 := rfl
@[simp] theorem fpE142 : ctx.fp 142 = fp142 := rfl
@[simp] theorem flE142 : ctx.fl 142 = fun _ => [] := rfl
@[simp] theorem odE142 : ctx.od 142 = od142 := rfl
theorem run142 {args : List AV} {cs : List Cont} (h : callOk 51 fp142 args cs = true) : callT ctx 142 args cs = denK ctx 142 (codeOf Tryd.f142) (entry 51 gl0 args cs fp142.sites) (finK Tryd.prog fp142 cs.length [.cell 4 180]) :=
  call_run rfl rfl Tryd.func142 rfl (by kernel_rfl) Tryd.ntmps142 (by rw [Tryd.results142]) rfl rfl h
theorem ov142 {cl : CallFn} (hcl : ∀ g a c r, cl g a c = some r → callT ctx g a c = some r) {args : List AV} {cs : List Cont} (h : callOk 51 fp142 args cs = true) : Le (denK (ctx.over cl) 142 (codeOf Tryd.f142) (entry 51 gl0 args cs fp142.sites) (finK Tryd.prog fp142 cs.length [.cell 4 180])) (callT ctx 142 args cs) :=
  fun r hr => by rw [run142 h]; exact denK_over hcl hr
@[simp] theorem keepE143 : ctx.keep 143 = keep143 := rfl
@[simp] theorem ghE143 : ctx.gh 143 = fun _ => [] := rfl
@[simp] theorem mdE143 : ctx.md 143 = md143 := rfl
@[simp] theorem fpE143 : ctx.fp 143 = fp143 := rfl
@[simp] theorem flE143 : ctx.fl 143 = fun _ => [] := rfl
@[simp] theorem odE143 : ctx.od 143 = od143 := rfl
theorem run143 {args : List AV} {cs : List Cont} (h : callOk 16 fp143 args cs = true) : callT ctx 143 args cs = denK ctx 143 (codeOf Tryd.f143) (entry 16 gl0 args cs fp143.sites) (finK Tryd.prog fp143 cs.length [.tmp 2]) :=
  call_run rfl rfl Tryd.func143 rfl (by kernel_rfl) Tryd.ntmps143 (by rw [Tryd.results143]) rfl rfl h
theorem ov143 {cl : CallFn} (hcl : ∀ g a c r, cl g a c = some r → callT ctx g a c = some r) {args : List AV} {cs : List Cont} (h : callOk 16 fp143 args cs = true) : Le (denK (ctx.over cl) 143 (codeOf Tryd.f143) (entry 16 gl0 args cs fp143.sites) (finK Tryd.prog fp143 cs.length [.tmp 2])) (callT ctx 143 args cs) :=
  fun r hr => by rw [run143 h]; exact denK_over hcl hr
@[simp] theorem keepE144 : ctx.keep 144 = keep144 := rfl
@[simp] theorem ghE144 : ctx.gh 144 = fun _ => [] := rfl
@[simp] theorem mdE144 : ctx.md 144 = md144 := rfl
@[simp] theorem fpE144 : ctx.fp 144 = fp144 := rfl
@[simp] theorem flE144 : ctx.fl 144 = fun _ => [] := rfl
@[simp] theorem odE144 : ctx.od 144 = od144 := rfl
theorem run144 {args : List AV} {cs : List Cont} (h : callOk 12 fp144 args cs = true) : callT ctx 144 args cs = denK ctx 144 (codeOf Tryd.f144) (entry 12 gl0 args cs fp144.sites) (finK Tryd.prog fp144 cs.length [.tmp 2]) :=
  call_run rfl rfl Tryd.func144 rfl (by kernel_rfl) Tryd.ntmps144 (by rw [Tryd.results144]) rfl rfl h
theorem ov144 {cl : CallFn} (hcl : ∀ g a c r, cl g a c = some r → callT ctx g a c = some r) {args : List AV} {cs : List Cont} (h : callOk 12 fp144 args cs = true) : Le (denK (ctx.over cl) 144 (codeOf Tryd.f144) (entry 12 gl0 args cs fp144.sites) (finK Tryd.prog fp144 cs.length [.tmp 2])) (callT ctx 144 args cs) :=
  fun r hr => by rw [run144 h]; exact denK_over hcl hr
@[simp] theorem keepE145 : ctx.keep 145 = keep145 := rfl
@[simp] theorem ghE145 : ctx.gh 145 = gh145 := rfl
@[simp] theorem mdE145 : ctx.md 145 = md145 := rfl
@[simp] theorem fpE145 : ctx.fp 145 = fp145 := rfl
@[simp] theorem flE145 : ctx.fl 145 = fun _ => [] := rfl
@[simp] theorem odE145 : ctx.od 145 = od145 := rfl
theorem run145 {args : List AV} {cs : List Cont} (h : callOk 38 fp145 args cs = true) : callT ctx 145 args cs = denK ctx 145 (codeOf Tryd.f145) (entry 38 gl0 args cs fp145.sites) (finK Tryd.prog fp145 cs.length [.cell 2 40]) :=
  call_run rfl rfl Tryd.func145 rfl (by kernel_rfl) Tryd.ntmps145 (by rw [Tryd.results145]) rfl rfl h
theorem ov145 {cl : CallFn} (hcl : ∀ g a c r, cl g a c = some r → callT ctx g a c = some r) {args : List AV} {cs : List Cont} (h : callOk 38 fp145 args cs = true) : Le (denK (ctx.over cl) 145 (codeOf Tryd.f145) (entry 38 gl0 args cs fp145.sites) (finK Tryd.prog fp145 cs.length [.cell 2 40])) (callT ctx 145 args cs) :=
  fun r hr => by rw [run145 h]; exact denK_over hcl hr
@[simp] theorem keepE146 : ctx.keep 146 = keep146 := rfl
@[simp] theorem ghE146 : ctx.gh 146 = gh146 := rfl
@[simp] theorem mdE146 : ctx.md 146 = md146 := rfl
@[simp] theorem fpE146 : ctx.fp 146 = fp146 := rfl
@[simp] theorem flE146 : ctx.fl 146 = fun _ => [] := rfl
@[simp] theorem odE146 : ctx.od 146 = od146 := rfl
theorem run146 {args : List AV} {cs : List Cont} (h : callOk 56 fp146 args cs = true) : callT ctx 146 args cs = denK ctx 146 (codeOf Tryd.f146) (entry 56 gl0 args cs fp146.sites) (finK Tryd.prog fp146 cs.length [.cell 2 40]) :=
  call_run rfl rfl Tryd.func146 rfl (by kernel_rfl) Tryd.ntmps146 (by rw [Tryd.results146]) rfl rfl h
theorem ov146 {cl : CallFn} (hcl : ∀ g a c r, cl g a c = some r → callT ctx g a c = some r) {args : List AV} {cs : List Cont} (h : callOk 56 fp146 args cs = true) : Le (denK (ctx.over cl) 146 (codeOf Tryd.f146) (entry 56 gl0 args cs fp146.sites) (finK Tryd.prog fp146 cs.length [.cell 2 40])) (callT ctx 146 args cs) :=
  fun r hr => by rw [run146 h]; exact denK_over hcl hr
@[simp] theorem keepE147 : ctx.keep 147 = keep147 := rfl
@[simp] theorem ghE147 : ctx.gh 147 = fun _ => [] := rfl
@[simp] theorem mdE147 : ctx.md 147 = md147 := rfl
@[simp] theorem fpE147 : ctx.fp 147 = fp147 := rfl
@[simp] theorem flE147 : ctx.fl 147 = fun _ => [] := rfl
@[simp] theorem odE147 : ctx.od 147 = od147 := rfl
theorem run147 {args : List AV} {cs : List Cont} (h : callOk 45 fp147 args cs = true) : callT ctx 147 args cs = denK ctx 147 (codeOf Tryd.f147) (entry 45 gl0 args cs fp147.sites) (finK Tryd.prog fp147 cs.length [.cell 2 40]) :=
  call_run rfl rfl Tryd.func147 rfl (by kernel_rfl) Tryd.ntmps147 (by rw [Tryd.results147]) rfl rfl h
theorem ov147 {cl : CallFn} (hcl : ∀ g a c r, cl g a c = some r → callT ctx g a c = some r) {args : List AV} {cs : List Cont} (h : callOk 45 fp147 args cs = true) : Le (denK (ctx.over cl) 147 (codeOf Tryd.f147) (entry 45 gl0 args cs fp147.sites) (finK Tryd.prog fp147 cs.length [.cell 2 40])) (callT ctx 147 args cs) :=
  fun r hr => by rw [run147 h]; exact denK_over hcl hr
@[simp] theorem keepE148 : ctx.keep 148 = keep148 := rfl
@[simp] theorem ghE148 : ctx.gh 148 = fun _ => [] := rfl
@[simp] theorem mdE148 : ctx.md 148 = md148 := rfl
@[simp] theorem fpE148 : ctx.fp 148 = fp148 := rfl
@[simp] theorem flE148 : ctx.fl 148 = fun _ => [] := rfl
@[simp] theorem odE148 : ctx.od 148 = od148 := rfl
theorem run148 {args : List AV} {cs : List Cont} (h : callOk 5 fp148 args cs = true) : callT ctx 148 args cs = denK ctx 148 (codeOf Tryd.f148) (entry 5 gl0 args cs fp148.sites) (finK Tryd.prog fp148 cs.length [.cell 2 35]) :=
  call_run rfl rfl Tryd.func148 rfl (by kernel_rfl) Tryd.ntmps148 (by rw [Tryd.results148]) rfl rfl h
theorem ov148 {cl : CallFn} (hcl : ∀ g a c r, cl g a c = some r → callT ctx g a c = some r) {args : List AV} {cs : List Cont} (h : callOk 5 fp148 args cs = true) : Le (denK (ctx.over cl) 148 (codeOf Tryd.f148) (entry 5 gl0 args cs fp148.sites) (finK Tryd.prog fp148 cs.length [.cell 2 35])) (callT ctx 148 args cs) :=
  fun r hr => by rw [run148 h]; exact denK_over hcl hr
@[simp] theorem keepE149 : ctx.keep 149 = keep149 := rfl
@[simp] theorem ghE149 : ctx.gh 149 = gh149 := rfl
@[simp] theorem mdE149 : ctx.md 149 = md149 := rfl
@[simp] theorem fpE149 : ctx.fp 149 = fp149 := rfl
@[simp] theorem flE149 : ctx.fl 149 = fun _ => [] := rfl
@[simp] theorem odE149 : ctx.od 149 = od149 := rfl
theorem run149 {args : List AV} {cs : List Cont} (h : callOk 34 fp149 args cs = true) : callT ctx 149 args cs = denK ctx 149 (codeOf Tryd.f149) (entry 34 gl0 args cs fp149.sites) (finK Tryd.prog fp149 cs.length [.cell 4 40]) :=
  call_run rfl rfl Tryd.func149 rfl (by kernel_rfl) Tryd.ntmps149 (by rw [Tryd.results149]) rfl rfl h
theorem ov149 {cl : CallFn} (hcl : ∀ g a c r, cl g a c = some r → callT ctx g a c = some r) {args : List AV} {cs : List Cont} (h : callOk 34 fp149 args cs = true) : Le (denK (ctx.over cl) 149 (codeOf Tryd.f149) (entry 34 gl0 args cs fp149.sites) (finK Tryd.prog fp149 cs.length [.cell 4 40])) (callT ctx 149 args cs) :=
  fun r hr => by rw [run149 h]; exact denK_over hcl hr
@[simp] theorem keepE150 : ctx.keep 150 = keep150 := rfl
@[simp] theorem ghE150 : ctx.gh 150 = fun _ => [] := rfl
@[simp] theorem mdE150 : ctx.md 150 = md150 := rfl
@[simp] theorem fpE150 : ctx.fp 150 = fp150 := rfl
@[simp] theorem flE150 : ctx.fl 150 = fun _ => [] := rfl
@[simp] theorem odE150 : ctx.od 150 = od150 := rfl
theorem run150 {args : List AV} {cs : List Cont} (h : callOk 15 fp150 args cs = true) : callT ctx 150 args cs = denK ctx 150 (codeOf Tryd.f150) (entry 15 gl0 args cs fp150.sites) (finK Tryd.prog fp150 cs.length [.cell 2 35]) :=
  call_run rfl rfl Tryd.func150 rfl (by kernel_rfl) Tryd.ntmps150 (by rw [Tryd.results150]) rfl rfl h
theorem ov150 {cl : CallFn} (hcl : ∀ g a c r, cl g a c = some r → callT ctx g a c = some r) {args : List AV} {cs : List Cont} (h : callOk 15 fp150 args cs = true) : Le (denK (ctx.over cl) 150 (codeOf Tryd.f150) (entry 15 gl0 args cs fp150.sites) (finK Tryd.prog fp150 cs.length [.cell 2 35])) (callT ctx 150 args cs) :=
  fun r hr => by rw [run150 h]; exact denK_over hcl hr
@[simp] theorem keepE157 : ctx.keep 157 = keep157 := rfl
@[simp] theorem ghE157 : ctx.gh 157 = fun _ => [] := rfl
@[simp] theorem mdE157 : ctx.md 157 = md157 := rfl
@[simp] theorem fpE157 : ctx.fp 157 = fp157 := rfl
@[simp] theorem flE157 : ctx.fl 157 = fun _ => [] := rfl
@[simp] theorem odE157 : ctx.od 157 = od157 := rfl
theorem run157 {args : List AV} {cs : List Cont} (h : callOk 39 fp157 args cs = true) : callT ctx 157 args cs = denK ctx 157 (codeOf Tryd.f157) (entry 39 gl0 args cs fp157.sites) (finK Tryd.prog fp157 cs.length [.tmp 2, .tmp 3]) :=
  call_run rfl rfl Tryd.func157 rfl (by kernel_rfl) Tryd.ntmps157 (by rw [Tryd.results157]) rfl rfl h
theorem ov157 {cl : CallFn} (hcl : ∀ g a c r, cl g a c = some r → callT ctx g a c = some r) {args : List AV} {cs : List Cont} (h : callOk 39 fp157 args cs = true) : Le (denK (ctx.over cl) 157 (codeOf Tryd.f157) (entry 39 gl0 args cs fp157.sites) (finK Tryd.prog fp157 cs.length [.tmp 2, .tmp 3])) (callT ctx 157 args cs) :=
  fun r hr => by rw [run157 h]; exact denK_over hcl hr
@[simp] theorem keepE158 : ctx.keep 158 = keep158 := rfl
@[simp] theorem ghE158 : ctx.gh 158 = fun _ => [] := rfl
@[simp] theorem mdE158 : ctx.md 158 = md158 := rfl
@[simp] theorem fpE158 : ctx.fp 158 = fp158 := rfl
@[simp] theorem flE158 : ctx.fl 158 = fun _ => [] := rfl
@[simp] theorem odE158 : ctx.od 158 = od158 := rfl
theorem run158 {args : List AV} {cs : List Cont} (h : callOk 59 fp158 args cs = true) : callT ctx 158 args cs = denK ctx 158 (codeOf Tryd.f158) (entry 59 gl0 args cs fp158.sites) (finK Tryd.prog fp158 cs.length [.tmp 4]) :=
  call_run rfl rfl Tryd.func158 rfl (by kernel_rfl) Tryd.ntmps158 (by rw [Tryd.results158]) rfl rfl h
theorem ov158 {cl : CallFn} (hcl : ∀ g a c r, cl g a c = some r → callT ctx g a c = some r) {args : List AV} {cs : List Cont} (h : callOk 59 fp158 args cs = true) : Le (denK (ctx.over cl) 158 (codeOf Tryd.f158) (entry 59 gl0 args cs fp158.sites) (finK Tryd.prog fp158 cs.length [.tmp 4])) (callT ctx 158 args cs) :=
  fun r hr => by rw [run158 h]; exact denK_over hcl hr
@[simp] theorem keepE159 : ctx.keep 159 = keep159 := rfl
@[simp] theorem ghE159 : ctx.gh 159 = fun _ => [] := rfl
@[simp] theorem mdE159 : ctx.md 159 = md159 := rfl
@[simp] theorem fpE159 : ctx.fp 159 = fp159 := rfl
@[simp] theorem flE159 : ctx.fl 159 = fun _ => [] := rfl
@[simp] theorem odE159 : ctx.od 159 = od159 := rfl
theorem run159 {args : List AV} {cs : List Cont} (h : callOk 23 fp159 args cs = true) : callT ctx 159 args cs = denK ctx 159 (codeOf Tryd.f159) (entry 23 gl0 args cs fp159.sites) (finK Tryd.prog fp159 cs.length [.tmp 0]) :=
  call_run rfl rfl Tryd.func159 rfl (by kernel_rfl) Tryd.ntmps159 (by rw [Tryd.results159]) rfl rfl h
theorem ov159 {cl : CallFn} (hcl : ∀ g a c r, cl g a c = some r → callT ctx g a c = some r) {args : List AV} {cs : List Cont} (h : callOk 23 fp159 args cs = true) : Le (denK (ctx.over cl) 159 (codeOf Tryd.f159) (entry 23 gl0 args cs fp159.sites) (finK Tryd.prog fp159 cs.length [.tmp 0])) (callT ctx 159 args cs) :=
  fun r hr => by rw [run159 h]; exact denK_over hcl hr
@[simp] theorem keepE160 : ctx.keep 160 = keep160 := rfl
@[simp] theorem ghE160 : ctx.gh 160 = fun _ => [] := rfl
@[simp] theorem mdE160 : ctx.md 160 = md160 := rfl
@[simp] theorem fpE160 : ctx.fp 160 = fp160 := rfl
@[simp] theorem flE160 : ctx.fl 160 = fun _ => [] := rfl
@[simp] theorem odE160 : ctx.od 160 = od160 := rfl
theorem run160 {args : List AV} {cs : List Cont} (h : callOk 19 fp160 args cs = true) : callT ctx 160 args cs = denK ctx 160 (codeOf Tryd.f160) (entry 19 gl0 args cs fp160.sites) (finK Tryd.prog fp160 cs.length [.tmp 4]) :=
  call_run rfl rfl Tryd.func160 rfl (by kernel_rfl) Tryd.ntmps160 (by rw [Tryd.results160]) rfl rfl h
theorem ov160 {cl : CallFn} (hcl : ∀ g a c r, cl g a c = some r → callT ctx g a c = some r) {args : List AV} {cs : List Cont} (h : callOk 19 fp160 args cs = true) : Le (denK (ctx.over cl) 160 (codeOf Tryd.f160) (entry 19 gl0 args cs fp160.sites) (finK Tryd.prog fp160 cs.length [.tmp 4])) (callT ctx 160 args cs) :=
  fun r hr => by rw [run160 h]; exact denK_over hcl hr
@[simp] theorem keepE161 : ctx.keep 161 = keep161 := rfl
@[simp] theorem ghE161 : ctx.gh 161 = fun _ => [] := rfl
@[simp] theorem mdE161 : ctx.md 161 = md161 := rfl
@[simp] theorem fpE161 : ctx.fp 161 = fp161 := rfl
@[simp] theorem flE161 : ctx.fl 161 = fun _ => [] := rfl
@[simp] theorem odE161 : ctx.od 161 = od161 := rfl
theorem run161 {args : List AV} {cs : List Cont} (h : callOk 8 fp161 args cs = true) : callT ctx 161 args cs = denK ctx 161 (codeOf Tryd.f161) (entry 8 gl0 args cs fp161.sites) (finK Tryd.prog fp161 cs.length [.tmp 3]) :=
  call_run rfl rfl Tryd.func161 rfl (by kernel_rfl) Tryd.ntmps161 (by rw [Tryd.results161]) rfl rfl h
theorem ov161 {cl : CallFn} (hcl : ∀ g a c r, cl g a c = some r → callT ctx g a c = some r) {args : List AV} {cs : List Cont} (h : callOk 8 fp161 args cs = true) : Le (denK (ctx.over cl) 161 (codeOf Tryd.f161) (entry 8 gl0 args cs fp161.sites) (finK Tryd.prog fp161 cs.length [.tmp 3])) (callT ctx 161 args cs) :=
  fun r hr => by rw [run161 h]; exact denK_over hcl hr
@[simp] theorem keepE162 : ctx.keep 162 = keep162 := rfl
@[simp] theorem ghE162 : ctx.gh 162 = fun _ => [] := rfl
@[simp] theorem mdE162 : ctx.md 162 = md162 := rfl
@[simp] theorem fpE162 : ctx.fp 162 = fp162 := rfl
@[simp] theorem flE162 : ctx.fl 162 = fun _ => [] := rfl
@[simp] theorem odE162 : ctx.od 162 = od162 := rfl
theorem run162 {args : List AV} {cs : List Cont} (h : callOk 11 fp162 args cs = true) : callT ctx 162 args cs = denK ctx 162 (codeOf Tryd.f162) (entry 11 gl0 args cs fp162.sites) (finK Tryd.prog fp162 cs.length [.tmp 2]) :=
  call_run rfl rfl Tryd.func162 rfl (by kernel_rfl) Tryd.ntmps162 (by rw [Tryd.results162]) rfl rfl h
theorem ov162 {cl : CallFn} (hcl : ∀ g a c r, cl g a c = some r → callT ctx g a c = some r) {args : List AV} {cs : List Cont} (h : callOk 11 fp162 args cs = true) : Le (denK (ctx.over cl) 162 (codeOf Tryd.f162) (entry 11 gl0 args cs fp162.sites) (finK Tryd.prog fp162 cs.length [.tmp 2])) (callT ctx 162 args cs) :=
  fun r hr => by rw [run162 h]; exact denK_over hcl hr
@[simp] theorem keepE163 : ctx.keep 163 = keep163 := rfl
@[simp] theorem ghE163 : ctx.gh 163 = fun _ => [] := rfl
@[simp] theorem mdE163 : ctx.md 163 = md163 := rfl
@[simp] theorem fpE163 : ctx.fp 163 = fp163 := rfl
@[simp] theorem flE163 : ctx.fl 163 = fun _ => [] := rfl
@[simp] theorem odE163 : ctx.od 163 = od163 := rfl
theorem run163 {args : List AV} {cs : List Cont} (h : callOk 24 fp163 args cs = true) : callT ctx 163 args cs = denK ctx 163 (codeOf Tryd.f163) (entry 24 gl0 args cs fp163.sites) (finK Tryd.prog fp163 cs.length [.tmp 2]) :=
  call_run rfl rfl Tryd.func163 rfl (by kernel_rfl) Tryd.ntmps163 (by rw [Tryd.results163]) rfl rfl h
theorem ov163 {cl : CallFn} (hcl : ∀ g a c r, cl g a c = some r → callT ctx g a c = some r) {args : List AV} {cs : List Cont} (h : callOk 24 fp163 args cs = true) : Le (denK (ctx.over cl) 163 (codeOf Tryd.f163) (entry 24 gl0 args cs fp163.sites) (finK Tryd.prog fp163 cs.length [.tmp 2])) (callT ctx 163 args cs) :=
  fun r hr => by rw [run163 h]; exact denK_over hcl hr
@[simp] theorem keepE164 : ctx.keep 164 = keep164 := rfl
@[simp] theorem ghE164 : ctx.gh 164 = fun _ => [] := rfl
@[simp] theorem mdE164 : ctx.md 164 = md164 := rfl
@[simp] theorem fpE164 : ctx.fp 164 = fp164 := rfl
@[simp] theorem flE164 : ctx.fl 164 = fun _ => [] := rfl
@[simp] theorem odE164 : ctx.od 164 = od164 := rfl
theorem run164 {args : List AV} {cs : List Cont} (h : callOk 43 fp164 args cs = true) : callT ctx 164 args cs = denK ctx 164 (codeOf Tryd.f164) (entry 43 gl0 args cs fp164.sites) (finK Tryd.prog fp164 cs.length [.cell 4 35]) :=
  call_run rfl rfl Tryd.func164 rfl (by kernel_rfl) Tryd.ntmps164 (by rw [Tryd.results164]) rfl rfl h
theorem ov164 {cl : CallFn} (hcl : ∀ g a c r, cl g a c = some r → callT ctx g a c = some r) {args : List AV} {cs : List Cont} (h : callOk 43 fp164 args cs = true) : Le (denK (ctx.over cl) 164 (codeOf Tryd.f164) (entry 43 gl0 args cs fp164.sites) (finK Tryd.prog fp164 cs.length [.cell 4 35])) (callT ctx 164 args cs) :=
  fun r hr => by rw [run164 h]; exact denK_over hcl hr
@[simp] theorem keepE172 : ctx.keep 172 = keep172 := rfl
@[simp] theorem ghE172 : ctx.gh 172 = fun _ => [] := rfl
@[simp] theorem mdE172 : ctx.md 172 = md172 := rfl
@[simp] theorem fpE172 : ctx.fp 172 = fp172 := rfl
@[simp] theorem flE172 : ctx.fl 172 = fun _ => [] := rfl
@[simp] theorem odE172 : ctx.od 172 = od172 := rfl
theorem run172 {args : List AV} {cs : List Cont} (h : callOk 114 fp172 args cs = true) : callT ctx 172 args cs = denK ctx 172 (codeOf Tryd.f172) (entry 114 gl0 args cs fp172.sites) (finK Tryd.prog fp172 cs.length [.tmp 4]) :=
  call_run rfl rfl Tryd.func172 rfl (by kernel_rfl) Tryd.ntmps172 (by rw [Tryd.results172]) rfl rfl h
theorem ov172 {cl : CallFn} (hcl : ∀ g a c r, cl g a c = some r → callT ctx g a c = some r) {args : List AV} {cs : List Cont} (h : callOk 114 fp172 args cs = true) : Le (denK (ctx.over cl) 172 (codeOf Tryd.f172) (entry 114 gl0 args cs fp172.sites) (finK Tryd.prog fp172 cs.length [.tmp 4])) (callT ctx 172 args cs) :=
  fun r hr => by rw [run172 h]; exact denK_over hcl hr
@[simp] theorem keepE173 : ctx.keep 173 = keep173 := rfl
@[simp] theorem ghE173 : ctx.gh 173 = fun _ => [] := rfl
@[simp] theorem mdE173 : ctx.md 173 = md173 := rfl
@[simp] theorem fpE173 : ctx.fp 173 = fp173 := rfl
@[simp] theorem flE173 : ctx.fl 173 = fun _ => [] := rfl
@[simp] theorem odE173 : ctx.od 173 = od173 := rfl
theorem run173 {args : List AV} {cs : List Cont} (h : callOk 99 fp173 args cs = true) : callT ctx 173 args cs = denK ctx 173 (codeOf Tryd.f173) (entry 99 gl0 args cs fp173.sites) (finK Tryd.prog fp173 cs.length [.tmp 4]) :=
  call_run rfl rfl Tryd.func173 rfl (by kernel_rfl) Tryd.ntmps173 (by rw [Tryd.results173]) rfl rfl h
theorem ov173 {cl : CallFn} (hcl : ∀ g a c r, cl g a c = some r → callT ctx g a c = some r) {args : List AV} {cs : List Cont} (h : callOk 99 fp173 args cs = true) : Le (denK (ctx.over cl) 173 (codeOf Tryd.f173) (entry 99 gl0 args cs fp173.sites) (finK Tryd.prog fp173 cs.length [.tmp 4])) (callT ctx 173 args cs) :=
  fun r hr => by rw [run173 h]; exact denK_over hcl hr
@[simp] theorem keepE174 : ctx.keep 174 = keep174 := rfl
@[simp] theorem ghE174 : ctx.gh 174 = fun _ => [] := rfl
@[simp] theorem mdE174 : ctx.md 174 = md174 := rfl
@[simp] theorem fpE174 : ctx.fp 174 = fp174 := rfl
@[simp] theorem flE174 : ctx.fl 174 = fun _ => [] := rfl
@[simp] theorem odE174 : ctx.od 174 = od174 := rfl
theorem run174 {args : List AV} {cs : List Cont} (h : callOk 8 fp174 args cs = true) : callT ctx 174 args cs = denK ctx 174 (codeOf Tryd.f174) (entry 8 gl0 args cs fp174.sites) (finK Tryd.prog fp174 cs.length [.tmp 0]) :=
  call_run rfl rfl Tryd.func174 rfl (by kernel_rfl) Tryd.ntmps174 (by rw [Tryd.results174]) rfl rfl h
theorem ov174 {cl : CallFn} (hcl : ∀ g a c r, cl g a c = some r → callT ctx g a c = some r) {args : List AV} {cs : List Cont} (h : callOk 8 fp174 args cs = true) : Le (denK (ctx.over cl) 174 (codeOf Tryd.f174) (entry 8 gl0 args cs fp174.sites) (finK Tryd.prog fp174 cs.length [.tmp 0])) (callT ctx 174 args cs) :=
  fun r hr => by rw [run174 h]; exact denK_over hcl hr
@[simp] theorem keepE175 : ctx.keep 175 = keep175 := rfl
@[simp] theorem ghE175 : ctx.gh 175 = fun _ => [] := rfl
@[simp] theorem mdE175 : ctx.md 175 = md175 := rfl
@[simp] theorem fpE175 : ctx.fp 175 = fp175 := rfl
@[simp] theorem flE175 : ctx.fl 175 = fun _ => [] := rfl
@[simp] theorem odE175 : ctx.od 175 = od175 := rfl
theorem run175 {args : List AV} {cs : List Cont} (h : callOk 30 fp175 args cs = true) : callT ctx 175 args cs = denK ctx 175 (codeOf Tryd.f175) (entry 30 gl0 args cs fp175.sites) (finK Tryd.prog fp175 cs.length [.cell 2 35]) :=
  call_run rfl rfl Tryd.func175 rfl (by kernel_rfl) Tryd.ntmps175 (by rw [Tryd.results175]) rfl rfl h
theorem ov175 {cl : CallFn} (hcl : ∀ g a c r, cl g a c = some r → callT ctx g a c = some r) {args : List AV} {cs : List Cont} (h : callOk 30 fp175 args cs = true) : Le (denK (ctx.over cl) 175 (codeOf Tryd.f175) (entry 30 gl0 args cs fp175.sites) (finK Tryd.prog fp175 cs.length [.cell 2 35])) (callT ctx 175 args cs) :=
  fun r hr => by rw [run175 h]; exact denK_over hcl hr
@[simp] theorem keepE176 : ctx.keep 176 = keep176 := rfl
@[simp] theorem ghE176 : ctx.gh 176 = fun _ => [] := rfl
@[simp] theorem mdE176 : ctx.md 176 = md176 := rfl
@[simp] theorem fpE176 : ctx.fp 176 = fp176 := rfl
@[simp] theorem flE176 : ctx.fl 176 = fun _ => [] := rfl
@[simp] theorem odE176 : ctx.od 176 = od176 := rfl
theorem run176 {args : List AV} {cs : List Cont} (h : callOk 9 fp176 args cs = true) : callT ctx 176 args cs = denK ctx 176 (codeOf Tryd.f176) (entry 9 gl0 args cs fp176.sites) (finK Tryd.prog fp176 cs.length [.tmp 2]) :=
  call_run rfl rfl Tryd.func176 rfl (by kernel_rfl) Tryd.ntmps176 (by rw [Tryd.results176]) rfl rfl h
theorem ov176 {cl : CallFn} (hcl : ∀ g a c r, cl g a c = some r → callT ctx g a c = some r) {args : List AV} {cs : List Cont} (h : callOk 9 fp176 args cs = true) : Le (denK (ctx.over cl) 176 (codeOf Tryd.f176) (entry 9 gl0 args cs fp176.sites) (finK Tryd.prog fp176 cs.length [.tmp 2])) (callT ctx 176 args cs) :=
  fun r hr => by rw [run176 h]; exact denK_over hcl hr
@[simp] theorem keepE181 : ctx.keep 181 = keep181 := rfl
@[simp] theorem ghE181 : ctx.gh 181 = fun _ => [] := rfl
@[simp] theorem mdE181 : ctx.md 181 = md181 := rfl
@[simp] theorem fpE181 : ctx.fp 181 = fp181 := rfl
@[simp] theorem flE181 : ctx.fl 181 = fun _ => [] := rfl
@[simp] theorem odE181 : ctx.od 181 = od181 := rfl
theorem run181 {args : List AV} {cs : List Cont} (h : callOk 72 fp181 args cs = true) : callT ctx 181 args cs = denK ctx 181 (codeOf Tryd.f181) (entry 72 gl0 args cs fp181.sites) (finK Tryd.prog fp181 cs.length [.cell 2 35]) :=
  call_run rfl rfl Tryd.func181 rfl (by kernel_rfl) Tryd.ntmps181 (by rw [Tryd.results181]) rfl rfl h
theorem ov181 {cl : CallFn} (hcl : ∀ g a c r, cl g a c = some r → callT ctx g a c = some r) {args : List AV} {cs : List Cont} (h : callOk 72 fp181 args cs = true) : Le (denK (ctx.over cl) 181 (codeOf Tryd.f181) (entry 72 gl0 args cs fp181.sites) (finK Tryd.prog fp181 cs.length [.cell 2 35])) (callT ctx 181 args cs) :=
  fun r hr => by rw [run181 h]; exact denK_over hcl hr
end Go.Am
end
section
namespace Go.Am
open Go
@[simp] theorem range_2 : List.range 2 = [0, 1] := rfl
@[simp] theorem range_3 : List.range 3 = [0, 1, 2] := rfl
@[simp] theorem range_4 : List.range 4 = [0, 1, 2, 3] := rfl
@[simp] theorem range_5 : List.range 5 = [0, 1, 2, 3, 4] := rfl
@[simp] theorem range_6 : List.range 6 = [0, 1, 2, 3, 4, 5] := rfl
@[simp] theorem int_beq (a b : Int) : (a == b) = decide (a = b) := by by_cases h : a = b <;> simp [h]
def I64 (n : Int) : Prop := -9223372036854775808 ≤ n ∧ n ≤ 9223372036854775807
theorem wrap_id {n : Int} (h : I64 n) : IntKind.i64.wrap n = n := IntWalk.i64_in _ (by unfold I64 at h; omega)
end Go.Am
end
section
namespace Go.Am
abbrev Tx := List UInt8
def letterB (c : UInt8) : Bool := decide (65 ≤ c.toNat) && decide (c.toNat ≤ 90) || decide (97 ≤ c.toNat) && decide (c.toNat ≤ 122)
def digitB (c : UInt8) : Bool := decide (48 ≤ c.toNat) && decide (c.toNat ≤ 57)
def innerB (c : UInt8) : Bool := letterB c || digitB c || decide (c.toNat = 95)
def blankB (c : UInt8) : Bool := decide (c.toNat = 32) || decide (c.toNat = 10) || decide (c.toNat = 9)
/-- What a digit is worth; 99: it is none. -/
def valB (c : UInt8) : Nat := if digitB c then c.toNat - 48 else if 65 ≤ c.toNat ∧ c.toNat ≤ 70 then c.toNat - 65 + 10 else 99
/-- Places. -/
def plStep (p : Int × Int) (c : UInt8) : Int × Int := if c = 10 then (p.1 + 1, 1) else (p.1, p.2 + 1)
def plOf (s : Tx) : Int × Int := s.foldl plStep (1, 1)
theorem plOf_bound : ∀ (s : Tx) (p : Int × Int) (n : Nat), 1 ≤ p.1 → p.1 ≤ n → 1 ≤ p.2 → p.2 ≤ n → 1 ≤ (s.foldl plStep p).1 ∧ (s.foldl plStep p).1 ≤ n + s.length ∧ 1 ≤ (s.foldl plStep p).2 ∧ (s.foldl plStep p).2 ≤ n + s.length
  | [], p, n, h1, h2, h3, h4 => by simp; omega
  | c :: r, p, n, h1, h2, h3, h4 => by
    have h := plOf_bound r (plStep p c) (n + 1) (by unfold plStep; split <;> simp <;> omega) (by unfold plStep; split <;> simp <;> omega) (by unfold plStep; split <;> simp <;> omega) (by unfold plStep; split <;> simp <;> omega)
    simp only [List.foldl_cons, List.length_cons]
    omega
theorem plOf_take {s : Tx} {i : Nat} : 1 ≤ (plOf (s.take i)).1 ∧ (plOf (s.take i)).1 ≤ s.length + 1 ∧ 1 ≤ (plOf (s.take i)).2 ∧ (plOf (s.take i)).2 ≤ s.length + 1 := by
  have h := plOf_bound (s.take i) (1, 1) 1 (by simp) (by simp) (by simp) (by simp)
  have hl : (s.take i).length ≤ s.length := by simp; omega
  unfold plOf
  omega
theorem plOf_succ {s : Tx} {i : Nat} (h : i < s.length) : plOf (s.take (i + 1)) = plStep (plOf (s.take i)) s[i] := by
  unfold plOf
  rw [List.take_add_one, List.getElem?_eq_getElem h, List.foldl_append]
  rfl
/-- The end of a remark. -/
def findEnd : Tx → Option Nat
  | [] => none
  | c :: r => if c = 42 ∧ r.head? = some 41 then some 0 else (findEnd r).map (· + 1)
/-- How many bytes up to the end of the line. -/
def lineN (s : Tx) : Nat := (s.takeWhile (· ≠ 10)).length
theorem lineN_le (s : Tx) : lineN s ≤ s.length := by unfold lineN; exact (List.takeWhile_prefix _).length_le
theorem u8beq (a c : UInt8) : (a == c) = decide (c = a) := by
  by_cases h : c = a
  · simp [h]
  · simp [h]; exact fun e => h e.symm
theorem indexByte_line : ∀ (t : Tx), Go.Lib.indexByte t 10 = if lineN t < t.length then (lineN t : Int) else -1
  | [] => rfl
  | c :: r => by
    have ih := indexByte_line r
    unfold Go.Lib.indexByte
    by_cases hc : c = 10
    · subst hc; simp [lineN]
    · have e : lineN (c :: r) = lineN r + 1 := by simp [lineN, hc]
      rw [e, ih]
      simp only [beq_iff_eq, hc, if_false, List.length_cons]
      by_cases h : lineN r < r.length
      · simp only [if_pos h]
        rw [if_neg (by omega), if_pos (by omega)]; omega
      · simp [h]
theorem findEnd_le : ∀ {t : Tx} {m : Nat}, findEnd t = some m → m + 2 ≤ t.length
  | [], m, h => by cases h
  | c :: r, m, h => by
    unfold findEnd at h
    split at h
    · rename_i hc
      cases h
      cases r with
      | nil => simp at hc
      | cons d r => simp
    · cases hf : findEnd r with
      | none => rw [hf] at h; cases h
      | some n =>
        rw [hf] at h
        cases h
        have := findEnd_le hf
        simp; omega
theorem index_end : ∀ (t : Tx), Go.Lib.index t [42, 41] = match findEnd t with | none => -1 | some m => (m : Int)
  | [] => rfl
  | c :: r => by
    have ih := index_end r
    unfold Go.Lib.index findEnd
    have e : (([42, 41] : Tx).isPrefixOf (c :: r)) = decide (c = 42 ∧ r.head? = some 41) := by
      cases r with
      | nil => simp [List.isPrefixOf]
      | cons d r => simp [List.isPrefixOf, u8beq]
    rw [e, ih]
    by_cases hc : c = 42 ∧ r.head? = some 41
    · simp [hc]
    · rw [if_neg hc]
      simp only [hc, decide_false, Bool.false_eq_true, if_false]
      cases hf : findEnd r with
      | none => simp
      | some n => simp
theorem hasPrefix2 (a b c : UInt8) (r : Tx) : Go.Lib.hasPrefix (c :: r) [a, b] = (decide (c = a) && decide (r.head? = some b)) := by
  unfold Go.Lib.hasPrefix
  cases r with
  | nil => simp [List.isPrefixOf]
  | cons d r => simp [List.isPrefixOf, u8beq]
/-- Blanks and remarks: how many bytes; is each remark one? -/
def gapC : Nat → Tx → Nat × Bool
  | 0, _ => (0, true)
  | _ + 1, [] => (0, true)
  | f + 1, c :: r =>
    if blankB c then (1 + (gapC f r).1, (gapC f r).2)
    else if c = 47 ∧ r.head? = some 47 then (lineN (c :: r) + (gapC f ((c :: r).drop (lineN (c :: r)))).1, (gapC f ((c :: r).drop (lineN (c :: r)))).2)
    else if c = 40 ∧ r.head? = some 42 then match findEnd r.tail with
      | none => (0, false)
      | some m => (m + 4 + (gapC f ((c :: r).drop (m + 4))).1, (gapC f ((c :: r).drop (m + 4))).2)
    else (0, true)
/-- A number at the beginning: base, length of its head. -/
def headN (s : Tx) : Nat × Nat := if [49, 54, 35].isPrefixOf s then (16, 3) else if [56, 35].isPrefixOf s then (8, 2) else if [50, 35].isPrefixOf s then (2, 2) else (10, 0)
/-- Its value, if there is room. -/
def valN (base : Nat) : Nat → Tx → Option Nat
  | x, [] => some x
  | x, c :: r => if (9223372036854775807 - valB c) / base < x then none else valN base (x * base + valB c) r
/-- A number at the beginning, its digits known: its length, value, error. -/
def numG (s : Tx) (b h : Nat) (ds : Tx) : Nat × Nat × Nat :=
  if ds = [] ∨ (∃ c, s[h + ds.length]? = some c ∧ (innerB c = true ∨ c = 35)) then (0, 0, 5)
  else match valN b 0 ds with
    | none => (0, 0, 2)
    | some x => (h + ds.length, x, 0)
def numF (s : Tx) : Nat × Nat × Nat := numG s (headN s).1 (headN s).2 ((s.drop (headN s).2).takeWhile (fun c => decide (valB c < (headN s).1)))
def signs1 : Tx := [43, 45, 42, 47, 40, 41, 91, 93, 46, 44, 59, 58, 60, 62, 61]
def signs2 : List Tx := [[58, 61], [60, 61], [62, 61], [60, 62], [46, 46]]
def signF (s : Tx) : Nat := if signs2.any (fun p => p.isPrefixOf s) then 2 else match s with
  | [] => 0
  | c :: _ => if c ∈ signs1 then 1 else 0
theorem gapC_le : ∀ (f : Nat) (t : Tx), (gapC f t).1 ≤ t.length
  | 0, _ => by simp [gapC]
  | _ + 1, [] => by simp [gapC]
  | f + 1, c :: r => by
    unfold gapC
    split
    · have := gapC_le f r; simp; omega
    · split
      · have h1 := gapC_le f ((c :: r).drop (lineN (c :: r)))
        have h2 := lineN_le (c :: r)
        simp only [List.length_drop] at h1
        simp only; omega
      · split
        · split
          · simp
          · rename_i m hm
            have h1 := gapC_le f ((c :: r).drop (m + 4))
            have h2 := findEnd_le hm
            have h3 : r.tail.length = r.length - 1 := by simp
            simp only [List.length_drop, List.length_cons] at h1 ⊢
            omega
        · simp
/-- The words of the language. -/
def wordsT : Tx := [80, 82, 79, 71, 82, 65, 77, 32, 69, 78, 68, 95, 80, 82, 79, 71, 82, 65, 77, 32, 86, 65, 82, 32, 86, 65, 82, 95, 73, 78, 80, 85, 84, 32, 86, 65, 82, 95, 79, 85, 84, 80, 85, 84, 32, 69, 78, 68, 95, 86, 65, 82, 32, 73, 78, 84, 32, 66, 79, 79, 76, 32, 65, 82, 82, 65, 89, 32, 79, 70, 32, 84, 82, 85, 69, 32, 70, 65, 76, 83, 69, 32, 73, 70, 32, 84, 72, 69, 78, 32, 69, 76, 83, 73, 70, 32, 69, 76, 83, 69, 32, 69, 78, 68, 95, 73, 70, 32, 67, 65, 83, 69, 32, 69, 78, 68, 95, 67, 65, 83, 69, 32, 70, 79, 82, 32, 84, 79, 32, 66, 89, 32, 68, 79, 32, 69, 78, 68, 95, 70, 79, 82, 32, 87, 72, 73, 76, 69, 32, 69, 78, 68, 95, 87, 72, 73, 76, 69, 32, 82, 69, 80, 69, 65, 84, 32, 85, 78, 84, 73, 76, 32, 69, 78, 68, 95, 82, 69, 80, 69, 65, 84, 32, 69, 88, 73, 84, 32, 82, 69, 84, 85, 82, 78, 32, 65, 78, 68, 32, 79, 82, 32, 88, 79, 82, 32, 78, 79, 84, 32, 77, 79, 68]
def wordsL : List Tx := [[80, 82, 79, 71, 82, 65, 77], [69, 78, 68, 95, 80, 82, 79, 71, 82, 65, 77], [86, 65, 82], [86, 65, 82, 95, 73, 78, 80, 85, 84], [86, 65, 82, 95, 79, 85, 84, 80, 85, 84], [69, 78, 68, 95, 86, 65, 82], [73, 78, 84], [66, 79, 79, 76], [65, 82, 82, 65, 89], [79, 70], [84, 82, 85, 69], [70, 65, 76, 83, 69], [73, 70], [84, 72, 69, 78], [69, 76, 83, 73, 70], [69, 76, 83, 69], [69, 78, 68, 95, 73, 70], [67, 65, 83, 69], [69, 78, 68, 95, 67, 65, 83, 69], [70, 79, 82], [84, 79], [66, 89], [68, 79], [69, 78, 68, 95, 70, 79, 82], [87, 72, 73, 76, 69], [69, 78, 68, 95, 87, 72, 73, 76, 69], [82, 69, 80, 69, 65, 84], [85, 78, 84, 73, 76], [69, 78, 68, 95, 82, 69, 80, 69, 65, 84], [69, 88, 73, 84], [82, 69, 84, 85, 82, 78], [65, 78, 68], [79, 82], [88, 79, 82], [78, 79, 84], [77, 79, 68]]
def wordB (s : Tx) : Bool := decide (s ∈ wordsL)
structure Sgn where
  kind : Int
  text : Tx
  n : Int
  line : Int
  col : Int
  deriving DecidableEq
/-- The sign at the beginning: error, kind, length, value. -/
def nextF (s : Tx) : Nat × Nat × Nat × Nat :=
  match s with
  | [] => (5, 0, 0, 0)
  | c :: _ =>
    if letterB c then
      if wordB (s.take (s.takeWhile innerB).length) then (0, 2, (s.takeWhile innerB).length, 0)
      else if 16 < (s.takeWhile innerB).length then (9, 1, 0, 0) else (0, 1, (s.takeWhile innerB).length, 0)
    else if digitB c then
      if (numF s).2.2 = 0 then (0, 3, (numF s).1, (numF s).2.1) else ((numF s).2.2, 0, 0, 0)
    else if signF s = 0 then (5, 0, 0, 0) else (0, 4, signF s, 0)
def here (p : Int × Int) : Sgn := ⟨0, [], 0, p.1, p.2⟩
/-- All signs from a place on. -/
def lexF (s : Tx) : Nat → Nat → List Sgn → List Sgn × Nat × Sgn
  | 0, _, _ => ([], 5, ⟨0, [], 0, 0, 0⟩)
  | f + 1, i, out =>
    if (gapC (s.length + 1) (s.drop i)).2 = false then ([], 5, here (plOf (s.take (i + (gapC (s.length + 1) (s.drop i)).1))))
    else if s.drop (i + (gapC (s.length + 1) (s.drop i)).1) = [] then (out ++ [here (plOf (s.take (i + (gapC (s.length + 1) (s.drop i)).1)))], 0, ⟨0, [], 0, 0, 0⟩)
    else if (nextF (s.drop (i + (gapC (s.length + 1) (s.drop i)).1))).1 ≠ 0 then ([], (nextF (s.drop (i + (gapC (s.length + 1) (s.drop i)).1))).1, here (plOf (s.take (i + (gapC (s.length + 1) (s.drop i)).1))))
    else lexF s f (i + (gapC (s.length + 1) (s.drop i)).1 + (nextF (s.drop (i + (gapC (s.length + 1) (s.drop i)).1))).2.2.1)
      (out ++ [⟨(nextF (s.drop (i + (gapC (s.length + 1) (s.drop i)).1))).2.1, (s.drop (i + (gapC (s.length + 1) (s.drop i)).1)).take (nextF (s.drop (i + (gapC (s.length + 1) (s.drop i)).1))).2.2.1, (nextF (s.drop (i + (gapC (s.length + 1) (s.drop i)).1))).2.2.2,
        (plOf (s.take (i + (gapC (s.length + 1) (s.drop i)).1))).1, (plOf (s.take (i + (gapC (s.length + 1) (s.drop i)).1))).2⟩])
def lexP (s : Tx) : List Sgn × Nat × Sgn := if 16384 < s.length then ([], 13, ⟨0, [], 0, 1, 1⟩) else lexF s (s.length + 1) 0 []
end Go.Am
end
section
namespace Go.Am
@[simp] def sgnD (t : Sgn) : D := .agg [.int .i64 t.kind, .str t.text, .int .i64 t.n, .int .i64 t.line, .int .i64 t.col]
end Go.Am
end
section
namespace Go.Am
open Go
/-- Expressions. -/
inductive Ex where
  | mk (op n : Int) (name field : Tx) (sub : List Ex) (line : Int)
/-- Statements. -/
inductive Sm where
  | mk (op : Int) (name : Tx) (to val : Ex) (conds : List Ex) (labels : List (List Int)) (fields : List Tx) (blocks : List (List Sm)) (line : Int)
instance : Inhabited Ex := ⟨.mk 0 0 [] [] [] 0⟩
instance : Inhabited Sm := ⟨.mk 0 [] default default [] [] [] [] 0⟩
structure Vr where
  name : Tx
  ty : Int
  sec : Int
  arr : Bool
  lo : Int
  hi : Int
  init : Int
  line : Int
  deriving DecidableEq
structure Pg where
  name : Tx
  vars : List Vr
  body : List Sm
mutual
def exD : Ex → D
  | .mk op n name field sub line => .agg [.int .i64 op, .int .i64 n, .str name, .str field, .list (exDs sub), .int .i64 line]
def exDs : List Ex → List D
  | [] => []
  | x :: r => exD x :: exDs r
end
theorem exDs_eq : ∀ l : List Ex, exDs l = l.map exD
  | [] => rfl
  | x :: r => by simp [exDs, exDs_eq r]
def exC : Ex → List D
  | .mk op n name field sub line => [.int .i64 op, .int .i64 n, .str name, .str field, .list (exDs sub), .int .i64 line]
theorem exD_C (x : Ex) : exD x = .agg (exC x) := by cases x; rfl
def lbD (l : List Int) : D := .list (l.map fun n => .int .i64 n)
mutual
def smD : Sm → D
  | .mk op name to val conds labels fields blocks line => .agg (.int .i64 op :: .str name :: (exC to ++ (exC val ++ [.list (exDs conds), .list (labels.map lbD), .list (fields.map .str), .list (bksD blocks), .int .i64 line])))
def smDs : List Sm → List D
  | [] => []
  | x :: r => smD x :: smDs r
def bksD : List (List Sm) → List D
  | [] => []
  | b :: r => .list (smDs b) :: bksD r
end
theorem smDs_eq : ∀ l : List Sm, smDs l = l.map smD
  | [] => rfl
  | x :: r => by simp [smDs, smDs_eq r]
theorem bksD_eq : ∀ l : List (List Sm), bksD l = l.map fun b => .list (b.map smD)
  | [] => rfl
  | x :: r => by simp [bksD, bksD_eq r, smDs_eq]
def vrC (v : Vr) : List D := [.str v.name, .int .i64 v.ty, .int .i64 v.sec, .bool v.arr, .int .i64 v.lo, .int .i64 v.hi, .int .i64 v.init, .int .i64 v.line]
def vrD (v : Vr) : D := .agg (vrC v)
theorem vrD_inj {v w : Vr} (h : vrD v = vrD w) : v = w := by
  cases v; cases w
  simp [vrD, vrC] at h
  simp [h]
/-- The parser's state; an error and its place. -/
structure PS where
  at_ : Nat
  deep : Int
  vars : List Vr
structure Er where
  e : Int
  line : Int
  col : Int
  deriving DecidableEq
abbrev PM (α : Type) := PR Er PS α
abbrev wr (n : Int) : Int := IntKind.i64.wrap n
section
variable (L : List Sgn)
def nowS (s : PS) : PM Sgn := match L[s.at_]? with
  | some t => .ok t s
  | none => .out
def failS {α : Type} (e : Int) (t : Sgn) (s : PS) : PM α := .bad ⟨e, t.line, t.col⟩ s
def isW (t : Sgn) (w : Tx) : Bool := (decide (t.kind = 2) || decide (t.kind = 4)) && decide (t.text = w)
def isS (w : Tx) (s : PS) : PM Bool := (nowS L s).bind fun t s => .ok (isW t w) s
def anyS : List Tx → PS → PM Bool
  | [], s => .ok false s
  | w :: r, s => (isS L w s).bind fun b s => if b = true then .ok true s else anyS r s
def takeS (s : PS) : PM Sgn := (nowS L s).bind fun t s => .ok t (if t.kind = 0 then s else { s with at_ := s.at_ + 1 })
def mayS (w : Tx) (s : PS) : PM Bool := (isS L w s).bind fun b s => if b = true then (takeS L s).bind fun _ s => .ok true s else .ok false s
def mustS (w : Tx) (s : PS) : PM Unit := (mayS L w s).bind fun b s => if b = true then .ok () s else (nowS L s).bind fun t s => failS 5 t s
def kindS (k : Int) (s : PS) : PM Sgn := (nowS L s).bind fun t s => if t.kind = k then takeS L s else (nowS L s).bind fun t s => failS 5 t s
def inS (s : PS) : PM Unit := if 32 < wr (s.deep + 1) then (nowS L { s with deep := wr (s.deep + 1) }).bind fun t s => failS 13 t s else .ok () { s with deep := wr (s.deep + 1) }
def outS (s : PS) : PM Unit := .ok () { s with deep := wr (s.deep - 1) }
structure Kd where
  at_ : Sgn
  kind : Int
  arr : Bool
  lo : Int
  hi : Int
def plainS (s : PS) : PM (Int × Bool) := (mayS L [73, 78, 84] s).bind fun b s => if b = true then .ok (1, true) s else (mayS L [66, 79, 79, 76] s).bind fun b s => if b = true then .ok (2, true) s else .ok (0, false) s
def arrayS (k : Kd) (s : PS) : PM Kd :=
  (mustS L [91] s).bind fun _ s => (kindS L 3 s).bind fun lo s => (mustS L [46, 46] s).bind fun _ s => (kindS L 3 s).bind fun hi s =>
  if hi.n < lo.n ∨ 255 < hi.n then failS 1 hi s else
  (mustS L [93] s).bind fun _ s => (mustS L [79, 70] s).bind fun _ s => (plainS L s).bind fun p s =>
  if p.2 = true then .ok ⟨k.at_, p.1, true, lo.n, hi.n⟩ s else (nowS L s).bind fun t s => failS 5 t s
def typedS (kindN : Tx → Int) (s : PS) : PM Kd :=
  (nowS L s).bind fun t s => (plainS L s).bind fun p s =>
  if p.2 = true then .ok ⟨t, p.1, false, 0, 0⟩ s else (mayS L [65, 82, 82, 65, 89] s).bind fun b s =>
  if b = true then arrayS L ⟨t, 0, false, 0, 0⟩ s else (kindS L 1 s).bind fun nm s =>
  if kindN nm.text = 0 then failS 9 nm s else .ok ⟨t, kindN nm.text, false, 0, 0⟩ s
def signedS (s : PS) : PM Int := (mayS L [45] s).bind fun b s => if b = true then (kindS L 3 s).bind fun t s => .ok (wr (-t.n)) s else (kindS L 3 s).bind fun t s => .ok t.n s
def valueS (s : PS) : PM (Int × Bool) := (mayS L [84, 82, 85, 69] s).bind fun b s => if b = true then .ok (1, true) s else (mayS L [70, 65, 76, 83, 69] s).bind fun b s => if b = true then .ok (0, true) s else (signedS L s).bind fun n s => .ok (n, false) s
/-- The names of a line of variables. -/
def namesS : Nat → List Sgn → PS → PM (List Sgn)
  | 0, _, _ => .out
  | f + 1, l, s => (kindS L 1 s).bind fun t s => if 64 < s.vars.length + (l.length + 1) then (if l.length < 100000 ∧ s.vars.length < 100000 then failS 13 t s else .out) else
    (mayS L [44] s).bind fun b s => if b = true then namesS f (l ++ [t]) s else .ok (l ++ [t]) s
def vrOf (k : Kd) (sec init : Int) (t : Sgn) : Vr := ⟨t.text, k.kind, sec, k.arr, k.lo, k.hi, init, t.line⟩
def initS (k : Kd) (s : PS) : PM Int := (mayS L [58, 61] s).bind fun b s =>
  if b = true then (valueS L s).bind fun p s => if k.arr = true ∨ 2 < k.kind ∨ p.2 ≠ decide (k.kind = 2) then failS 1 k.at_ s else .ok p.1 s else .ok 0 s
def declaredS (kindN : Tx → Int) (f : Nat) (sec : Int) (s : PS) : PM Unit :=
  (namesS L f [] s).bind fun l s => (mustS L [58] s).bind fun _ s => (typedS L kindN s).bind fun k s => (initS L k s).bind fun init s => (mustS L [59] s).bind fun _ s =>
  if s.vars.length + l.length ≤ 64 then .ok () { s with vars := s.vars ++ l.map (vrOf k sec init) } else .out
/-- The lines of a section. -/
def linesS (kindN : Tx → Int) (sec : Int) : Nat → PS → PM Unit
  | 0, _ => .out
  | f + 1, s => (mayS L [69, 78, 68, 95, 86, 65, 82] s).bind fun b s => if b = true then .ok () s else (declaredS L kindN f sec s).bind fun _ s => linesS kindN sec f s
def sectionS (s : PS) : PM (Option Int) := (mayS L [86, 65, 82] s).bind fun b s => if b = true then .ok (some 0) s else (mayS L [86, 65, 82, 95, 73, 78, 80, 85, 84] s).bind fun b s => if b = true then .ok (some 1) s else
  (mayS L [86, 65, 82, 95, 79, 85, 84, 80, 85, 84] s).bind fun b s => if b = true then .ok (some 2) s else .ok none s
def sectionsS (kindN : Tx → Int) : Nat → PS → PM Unit
  | 0, _ => .out
  | f + 1, s => (sectionS L s).bind fun o s => match o with
    | some sec => (linesS L kindN sec f s).bind fun _ s => sectionsS kindN f s
    | none => .ok () s
def lvT : List (List Tx) := [[[79, 82]], [[88, 79, 82]], [[65, 78, 68]], [[61], [60, 62], [60], [62], [60, 61], [62, 61]], [[43], [45]], [[42], [47], [77, 79, 68]]]
def opT : List Tx := [[43], [45], [42], [47], [77, 79, 68], [61], [60, 62], [60], [62], [60, 61], [62, 61], [65, 78, 68], [88, 79, 82], [79, 82]]
/-- Where a word stands in a row; -1: nowhere. -/
def idxT (w : Tx) : List Tx → Nat → Int
  | [], _ => -1
  | x :: r, i => if w = x then i else idxT w r (i + 1)
/-- An operator's kind. -/
def opI (w : Tx) : Int := 8 + idxT w opT 0
def ex0 : Ex := .mk 0 0 [] [] [] 0
def exVar (t : Sgn) : Ex := .mk 3 0 t.text [] [] t.line
def exSub (op : Int) (nm : Tx) (l : List Ex) (line : Int) : Ex := .mk op 0 nm [] l line
def labelledS (s : PS) : PM Bool := (nowS L s).bind fun t s => if t.kind = 3 then .ok true s else isS L [45] s
def labelsS : Nat → List Int → PS → PM (List Int)
  | 0, _, _ => .out
  | f + 1, l, s => (signedS L s).bind fun lo s => (mayS L [46, 46] s).bind fun b s => (if b = true then signedS L s else .ok lo s).bind fun hi s =>
    if l.length < 100000 then (mayS L [44] s).bind fun b s => if b = true then labelsS f (l ++ [lo, hi]) s else (mustS L [58] s).bind fun _ s => .ok (l ++ [lo, hi]) s else .out
/-- What ends a block of a CASE. -/
def endCaseS (s : PS) : PM Bool := (labelledS L s).bind fun b s => if b = true then .ok true s else (isS L [69, 76, 83, 69] s).bind fun b s => if b = true then .ok true s else isS L [69, 78, 68, 95, 67, 65, 83, 69] s
mutual
def levelS : Nat → Nat → PS → PM Ex
  | 0, _, _ => .out
  | f + 1, n, s => if n = 6 then unaryS f s else if n < 6 then (levelS f (n + 1) s).bind fun x s => levelL f n x s else .out
def levelL : Nat → Nat → Ex → PS → PM Ex
  | 0, _, _, _ => .out
  | f + 1, n, x, s => (anyS L (lvT.getD n []) s).bind fun b s => if b = true then (takeS L s).bind fun t s => (levelS f (n + 1) s).bind fun y s =>
      if n = 3 then .ok (exSub (opI t.text) [] [x, y] t.line) s else levelL f n (exSub (opI t.text) [] [x, y] t.line) s
    else .ok x s
def unaryS : Nat → PS → PM Ex
  | 0, _ => .out
  | f + 1, s => (nowS L s).bind fun t s => (isS L [45] s).bind fun b s =>
    if b = true then unopS f 6 t s else (isS L [78, 79, 84] s).bind fun b s => if b = true then unopS f 7 t s else factorS f s
def unopS : Nat → Int → Sgn → PS → PM Ex
  | 0, _, _, _ => .out
  | f + 1, op, t, s => (inS L s).bind fun _ s => (takeS L s).bind fun _ s => (unaryS f s).bind fun x s => (outS s).bind fun _ s => .ok (exSub op [] [x] t.line) s
def exprS : Nat → PS → PM Ex
  | 0, _ => .out
  | f + 1, s => levelS f 0 s
def indexS : Nat → PS → PM Ex
  | 0, _ => .out
  | f + 1, s => (inS L s).bind fun _ s => (mustS L [91] s).bind fun _ s => (exprS f s).bind fun x s => (mustS L [93] s).bind fun _ s => (outS s).bind fun _ s => .ok x s
def factorS : Nat → PS → PM Ex
  | 0, _ => .out
  | f + 1, s => (nowS L s).bind fun t s =>
    if t.kind = 3 then (takeS L s).bind fun u s => .ok (.mk 1 u.n [] [] [] t.line) s else
    (mayS L [84, 82, 85, 69] s).bind fun b s => if b = true then .ok (.mk 2 1 [] [] [] t.line) s else
    (mayS L [70, 65, 76, 83, 69] s).bind fun b s => if b = true then .ok (.mk 2 0 [] [] [] t.line) s else
    (isS L [40] s).bind fun b s => if b = true then (inS L s).bind fun _ s => (takeS L s).bind fun _ s => (exprS f s).bind fun x s => (mustS L [41] s).bind fun _ s => (outS s).bind fun _ s => .ok x s else
    (kindS L 1 s).bind fun _ s =>
    (isS L [91] s).bind fun b s => if b = true then (indexS f s).bind fun x s => .ok (exSub 4 t.text [x] t.line) s else
    (mayS L [46] s).bind fun b s => if b = true then (kindS L 1 s).bind fun u s => .ok (.mk 5 0 t.text u.text [] t.line) s else .ok (exVar t) s
end
def smOp (op : Int) : Sm := .mk op [] ex0 ex0 [] [] [] [] 0
def smAt (line : Int) : Sm → Sm
  | .mk op name to val conds labels fields blocks _ => .mk op name to val conds labels fields blocks line
mutual
def blockS : Nat → List Tx → PS → PM (List Sm)
  | 0, _, _ => .out
  | f + 1, ends, s => blockL f ends [] s
def blockL : Nat → List Tx → List Sm → PS → PM (List Sm)
  | 0, _, _, _ => .out
  | f + 1, ends, l, s => (anyS L ends s).bind fun b s => if b = true then .ok l s else (stmtS f s).bind fun x s => if l.length < 100000 then blockL f ends (l ++ [x]) s else .out
def stmtS : Nat → PS → PM Sm
  | 0, _ => .out
  | f + 1, s => (nowS L s).bind fun t s => (inS L s).bind fun _ s => (openS f s).bind fun x s => (mustS L [59] s).bind fun _ s => (outS s).bind fun _ s => .ok (smAt t.line x) s
def openS : Nat → PS → PM Sm
  | 0, _ => .out
  | f + 1, s =>
    (mayS L [73, 70] s).bind fun b s => if b = true then branchesS f s else
    (mayS L [67, 65, 83, 69] s).bind fun b s => if b = true then casesS f s else
    (mayS L [70, 79, 82] s).bind fun b s => if b = true then countedS f s else
    (mayS L [87, 72, 73, 76, 69] s).bind fun b s => if b = true then (exprS L f s).bind fun v s => (mustS L [68, 79] s).bind fun _ s => (blockS f [[69, 78, 68, 95, 87, 72, 73, 76, 69]] s).bind fun l s => (mustS L [69, 78, 68, 95, 87, 72, 73, 76, 69] s).bind fun _ s => .ok (.mk 5 [] ex0 v [] [] [] [l] 0) s else
    (mayS L [82, 69, 80, 69, 65, 84] s).bind fun b s => if b = true then (blockS f [[85, 78, 84, 73, 76]] s).bind fun l s => (mustS L [85, 78, 84, 73, 76] s).bind fun _ s => (exprS L f s).bind fun v s => (mustS L [69, 78, 68, 95, 82, 69, 80, 69, 65, 84] s).bind fun _ s => .ok (.mk 6 [] ex0 v [] [] [] [l] 0) s else
    (mayS L [69, 88, 73, 84] s).bind fun b s => if b = true then .ok (smOp 7) s else
    (mayS L [82, 69, 84, 85, 82, 78] s).bind fun b s => if b = true then .ok (smOp 8) s else
    (kindS L 1 s).bind fun nm s => (mayS L [40] s).bind fun b s => if b = true then callS f nm.text s else
    (isS L [91] s).bind fun b s => (if b = true then (indexS L f s).bind fun x s => .ok (exSub 4 nm.text [x] nm.line) s else .ok (exVar nm) s).bind fun to s =>
    (mustS L [58, 61] s).bind fun _ s => (exprS L f s).bind fun v s => .ok (.mk 1 [] to v [] [] [] [] 0) s
def branchesS : Nat → PS → PM Sm
  | 0, _ => .out
  | f + 1, s => branchesL f [] [] s
def branchesL : Nat → List Ex → List (List Sm) → PS → PM Sm
  | 0, _, _, _ => .out
  | f + 1, c, l, s => (exprS L f s).bind fun x s => (mustS L [84, 72, 69, 78] s).bind fun _ s => (blockS f [[69, 76, 83, 73, 70], [69, 76, 83, 69], [69, 78, 68, 95, 73, 70]] s).bind fun b s =>
    if c.length < 100000 ∧ l.length < 100000 then (mayS L [69, 76, 83, 73, 70] s).bind fun m s => if m = true then branchesL f (c ++ [x]) (l ++ [b]) s else
      (mayS L [69, 76, 83, 69] s).bind fun m s => (if m = true then (blockS f [[69, 78, 68, 95, 73, 70]] s).bind fun z s => .ok (l ++ [b] ++ [z]) s else .ok (l ++ [b]) s).bind fun l s => (mustS L [69, 78, 68, 95, 73, 70] s).bind fun _ s => .ok (.mk 2 [] ex0 ex0 (c ++ [x]) [] [] l 0) s
    else .out
def casesS : Nat → PS → PM Sm
  | 0, _ => .out
  | f + 1, s => (exprS L f s).bind fun v s => (mustS L [79, 70] s).bind fun _ s => casesL f v [] [] s
def casesL : Nat → Ex → List (List Int) → List (List Sm) → PS → PM Sm
  | 0, _, _, _, _ => .out
  | f + 1, v, c, l, s => (labelledS L s).bind fun b s =>
    if b = true then (labelsS L f [] s).bind fun x s => (caseL f [] s).bind fun b s => if c.length < 100000 ∧ l.length < 100000 then casesL f v (c ++ [x]) (l ++ [b]) s else .out
    else (mayS L [69, 76, 83, 69] s).bind fun m s => (if m = true then (blockS f [[69, 78, 68, 95, 67, 65, 83, 69]] s).bind fun z s => if l.length < 100000 then .ok (l ++ [z]) s else .out else .ok l s).bind fun l s => (mustS L [69, 78, 68, 95, 67, 65, 83, 69] s).bind fun _ s => .ok (.mk 3 [] ex0 v [] c [] l 0) s
def caseL : Nat → List Sm → PS → PM (List Sm)
  | 0, _, _ => .out
  | f + 1, l, s => (endCaseS L s).bind fun b s => if b = true then .ok l s else (stmtS f s).bind fun x s => if l.length < 100000 then caseL f (l ++ [x]) s else .out
def countedS : Nat → PS → PM Sm
  | 0, _ => .out
  | f + 1, s => (kindS L 1 s).bind fun nm s => (mustS L [58, 61] s).bind fun _ s => (exprS L f s).bind fun a s => (mustS L [84, 79] s).bind fun _ s => (exprS L f s).bind fun b s =>
    (nowS L s).bind fun t s => (mayS L [66, 89] s).bind fun m s => (if m = true then exprS L f s else .ok (.mk 1 1 [] [] [] t.line) s).bind fun c s =>
    (mustS L [68, 79] s).bind fun _ s => (blockS f [[69, 78, 68, 95, 70, 79, 82]] s).bind fun l s => (mustS L [69, 78, 68, 95, 70, 79, 82] s).bind fun _ s => .ok (.mk 4 nm.text ex0 ex0 [a, b, c] [] [] [l] 0) s
def callS : Nat → Tx → PS → PM Sm
  | 0, _, _ => .out
  | f + 1, nm, s => (mayS L [41] s).bind fun b s => if b = true then .ok (.mk 9 nm ex0 ex0 [] [] [] [] 0) s else callL f nm [] [] s
def callL : Nat → Tx → List Tx → List Ex → PS → PM Sm
  | 0, _, _, _, _ => .out
  | f + 1, nm, c, l, s => (kindS L 1 s).bind fun t s => (mustS L [58, 61] s).bind fun _ s => (exprS L f s).bind fun x s =>
    if c.length < 100000 ∧ l.length < 100000 then (mayS L [44] s).bind fun b s => if b = true then callL f nm (c ++ [t.text]) (l ++ [x]) s else (mustS L [41] s).bind fun _ s => .ok (.mk 9 nm ex0 ex0 (l ++ [x]) [] (c ++ [t.text]) [] 0) s
    else .out
end
def programS (kindN : Tx → Int) (f : Nat) (s : PS) : PM Pg :=
  (mustS L [80, 82, 79, 71, 82, 65, 77] s).bind fun _ s => (kindS L 1 s).bind fun nm s => (sectionsS L kindN f s).bind fun _ s => (blockS L f [[69, 78, 68, 95, 80, 82, 79, 71, 82, 65, 77]] s).bind fun l s =>
  (mustS L [69, 78, 68, 95, 80, 82, 79, 71, 82, 65, 77] s).bind fun _ s => (kindS L 0 s).bind fun _ s => .ok ⟨nm.text, s.vars, l⟩ s
end
end Go.Am
end
section
namespace Go.Am
open Go
section
variable {α β : Type}
/-- What a run of the parser gives, if all is well. -/
def Tr (r : PM α) (Q : α → PS → Prop) : Prop := match r with
  | .ok a s => Q a s
  | .bad e _ => 1 ≤ e.line ∧ e.e ≠ 0
  | .out => False
theorem Tr.bind {r : PM α} {k : α → PS → PM β} {Q : α → PS → Prop} {Q' : β → PS → Prop} (h : Tr r Q) (hk : ∀ a s, Q a s → Tr (k a s) Q') : Tr (r.bind k) Q' := by
  cases r with
  | ok a s => exact hk a s h
  | bad e s => exact h
  | out => exact h.elim
theorem Tr.mono {r : PM α} {Q Q' : α → PS → Prop} (h : Tr r Q) (hk : ∀ a s, Q a s → Q' a s) : Tr r Q' := by
  cases r with
  | ok a s => exact hk a s h
  | bad e s => exact h
  | out => exact h.elim
theorem Tr.iff {c : Prop} [Decidable c] {a b : PM α} {Q : α → PS → Prop} (h : c → Tr a Q) (h' : ¬ c → Tr b Q) : Tr (if c then a else b) Q := by
  split
  · exact h ‹_›
  · exact h' ‹_›
theorem Tr.ok {a : α} {s : PS} {Q : α → PS → Prop} (h : Q a s) : Tr (.ok a s) Q := h
end
/-- Signs as Lex gives them: the last one, and it alone, is the end. -/
structure OkL (L : List Sgn) : Prop where
  ends : ∀ (i : Nat) (t : Sgn), L[i]? = some t → (t.kind = 0 ↔ i + 1 = L.length)
  line : ∀ (i : Nat) (t : Sgn), L[i]? = some t → 1 ≤ t.line
  len : L.length ≤ 49999
structure Iv (L : List Sgn) (s : PS) : Prop where
  at_ : s.at_ < L.length
  d0 : 0 ≤ s.deep
  d1 : s.deep ≤ 32
  vs : s.vars.length ≤ 64
/-- A step on: nothing but the place has changed. -/
structure Fw (L : List Sgn) (s s' : PS) : Prop where
  iv : Iv L s'
  deep : s'.deep = s.deep
  vars : s'.vars = s.vars
  at_ : s.at_ ≤ s'.at_
structure Fs (L : List Sgn) (s s' : PS) : Prop extends Fw L s s' where
  lt : s.at_ < s'.at_
theorem Fw.refl {L s} (h : Iv L s) : Fw L s s := ⟨h, rfl, rfl, Nat.le_refl _⟩
theorem Fw.trans {L s s1 s2} (h : Fw L s s1) (k : Fw L s1 s2) : Fw L s s2 := ⟨k.iv, k.deep.trans h.deep, k.vars.trans h.vars, Nat.le_trans h.at_ k.at_⟩
theorem Fs.trans {L s s1 s2} (h : Fs L s s1) (k : Fw L s1 s2) : Fs L s s2 := ⟨h.toFw.trans k, Nat.lt_of_lt_of_le h.lt k.at_⟩
theorem Fw.transS {L s s1 s2} (h : Fw L s s1) (k : Fs L s1 s2) : Fs L s s2 := ⟨h.trans k.toFw, Nat.lt_of_le_of_lt h.at_ k.lt⟩
section
variable {L : List Sgn} (hL : OkL L)
include hL
theorem now_tr {s : PS} (h : Iv L s) : Tr (nowS L s) fun t s' => s' = s ∧ L[s.at_]? = some t := by
  have := h.at_
  unfold nowS
  rw [List.getElem?_eq_getElem this]
  exact ⟨rfl, rfl⟩
theorem fail_tr {α : Type} {Q : α → PS → Prop} {e : Int} {t : Sgn} {s : PS} {i : Nat} (he : e ≠ 0) (ht : L[i]? = some t) : Tr (failS e t s) Q := ⟨hL.line i t ht, he⟩
theorem is_tr {s : PS} {w : Tx} (h : Iv L s) : Tr (isS L w s) fun b s' => s' = s ∧ ∃ t : Sgn, L[s.at_]? = some t ∧ b = isW t w := by
  unfold isS
  refine (now_tr hL h).bind fun t s' ⟨h1, h2⟩ => ?_
  exact ⟨h1, t, h2, rfl⟩
theorem any_tr {s : PS} (h : Iv L s) : ∀ ws : List Tx, Tr (anyS L ws s) fun b s' => s' = s ∧ (b = true → ∃ (t : Sgn) (w : Tx), L[s.at_]? = some t ∧ w ∈ ws ∧ isW t w = true)
  | [] => ⟨rfl, by simp⟩
  | w :: r => by
    unfold anyS
    refine (is_tr hL h).bind fun b s' ⟨h1, t, h2, h3⟩ => ?_
    subst h1
    refine Tr.iff (fun hb => ⟨rfl, fun _ => ⟨t, w, h2, by simp, by rw [← h3]; exact hb⟩⟩) fun hb => ?_
    exact (any_tr h r).mono fun b s' ⟨h1, h2⟩ => ⟨h1, fun hb => by obtain ⟨t, w', a, b, c⟩ := h2 hb; exact ⟨t, w', a, by simp [b], c⟩⟩
theorem take_tr {s : PS} (h : Iv L s) : Tr (takeS L s) fun t s' => L[s.at_]? = some t ∧ Fw L s s' ∧ (t.kind ≠ 0 → s.at_ < s'.at_) := by
  unfold takeS
  refine (now_tr hL h).bind fun t s' ⟨h1, h2⟩ => ?_
  subst h1
  refine ⟨h2, ?_⟩
  have he := hL.ends _ _ h2
  have hl := h.at_
  split
  · rename_i h0
    exact ⟨.refl h, fun hk => absurd h0 hk⟩
  · rename_i h0
    have hne : ¬ (s'.at_ + 1 = L.length) := fun e => h0 (he.2 e)
    exact ⟨⟨⟨by simp only; omega, h.d0, h.d1, h.vs⟩, rfl, rfl, by simp⟩, fun _ => by simp⟩
theorem isW_kind {t : Sgn} {w : Tx} (h : isW t w = true) : t.kind ≠ 0 := by
  simp [isW] at h
  omega
theorem may_tr {s : PS} {w : Tx} (h : Iv L s) : Tr (mayS L w s) fun b s' => (b = true → Fs L s s' ∧ ∃ t : Sgn, L[s.at_]? = some t ∧ isW t w = true) ∧ (b = false → s' = s) := by
  unfold mayS
  refine (is_tr hL h).bind fun b s' ⟨h1, t, h2, h3⟩ => ?_
  subst h1
  refine Tr.iff (fun hb => ?_) fun hb => ⟨(fun h => nomatch h), fun _ => rfl⟩
  refine (take_tr hL h).bind fun u s1 ⟨k1, k2, k3⟩ => ?_
  rw [h2] at k1
  cases k1
  refine ⟨fun _ => ⟨⟨k2, k3 (isW_kind hL (by rw [← h3]; exact hb))⟩, t, h2, by rw [← h3]; exact hb⟩, (fun h => nomatch h)⟩
theorem must_tr {s : PS} {w : Tx} (h : Iv L s) : Tr (mustS L w s) fun _ s' => Fs L s s' ∧ ∃ t : Sgn, L[s.at_]? = some t ∧ isW t w = true := by
  unfold mustS
  refine (may_tr hL h).bind fun b s' ⟨h1, h2⟩ => ?_
  refine Tr.iff (fun hb => h1 hb) fun hb => ?_
  have := h2 (by simpa using hb)
  subst this
  exact (now_tr hL h).bind fun t s1 ⟨_, k⟩ => fail_tr hL (by decide) k
theorem kind_tr {s : PS} {k : Int} (h : Iv L s) : Tr (kindS L k s) fun t s' => Fw L s s' ∧ L[s.at_]? = some t ∧ t.kind = k ∧ (k ≠ 0 → s.at_ < s'.at_) := by
  unfold kindS
  refine (now_tr hL h).bind fun t s' ⟨h1, h2⟩ => ?_
  subst h1
  refine Tr.iff (fun hb => ?_) fun hb => ?_
  · refine (take_tr hL h).mono fun u s1 ⟨k1, k2, k3⟩ => ?_
    rw [h2] at k1
    cases k1
    exact ⟨k2, h2, hb, fun hk => k3 (by rw [hb]; exact hk)⟩
  · exact (now_tr hL h).bind fun t s1 ⟨_, k⟩ => fail_tr hL (by decide) k
theorem kind_trS {s : PS} {k : Int} (hk : k ≠ 0) (h : Iv L s) : Tr (kindS L k s) fun t s' => Fs L s s' ∧ L[s.at_]? = some t ∧ t.kind = k :=
  (kind_tr hL h).mono fun _ _ ⟨a, b, c, d⟩ => ⟨⟨a, d hk⟩, b, c⟩
/-- One deeper. -/
structure Dn (L : List Sgn) (s s' : PS) : Prop where
  iv : Iv L s'
  deep : s'.deep = s.deep + 1
  vars : s'.vars = s.vars
  at_ : s'.at_ = s.at_
omit hL in
theorem wr_small {n : Int} (h : -100 ≤ n) (h' : n ≤ 100000000) : wr n = n := IntWalk.i64_in _ (by omega)
theorem in_tr {s : PS} (h : Iv L s) : Tr (inS L s) fun _ s' => Dn L s s' := by
  have h0 := h.d0
  have h1 := h.d1
  unfold inS
  rw [wr_small (by omega) (by omega)]
  refine Tr.iff (fun hb => ?_) fun hb => ?_
  · unfold nowS
    rw [List.getElem?_eq_getElem h.at_]
    exact fail_tr hL (by decide) (List.getElem?_eq_getElem h.at_)
  · exact ⟨⟨h.at_, by simp only; omega, by simp only; omega, h.vs⟩, rfl, rfl, rfl⟩
/-- What is between a step down and a step up. -/
theorem up_tr {α : Type} {s s1 s2 : PS} (h : Iv L s) (hd : Dn L s s1) (hf : Fw L s1 s2) {k : PS → PM α} {Q : α → PS → Prop} (hk : ∀ s', Fw L s s' → s'.at_ = s2.at_ → Tr (k s') Q) : Tr ((outS s2).bind fun _ s => k s) Q := by
  have h0 := h.d0
  have h1 := h.d1
  have e1 := hd.deep
  have e2 := hf.deep
  have e3 : s2.deep - 1 = s.deep := by omega
  unfold outS
  rw [e3, wr_small (by omega) (by omega)]
  exact hk _ ⟨⟨hf.iv.at_, h0, h1, hf.iv.vs⟩, rfl, hf.vars.trans hd.vars, by have := hf.at_; have := hd.at_; simp only; omega⟩ rfl
theorem plain_tr {s : PS} (h : Iv L s) : Tr (plainS L s) fun p s' => (p.2 = true → Fs L s s') ∧ (p.2 = false → s' = s) := by
  unfold plainS
  refine (may_tr hL h).bind fun b s1 ⟨h1, h2⟩ => Tr.iff (fun hb => ?_) fun hb => ?_
  · exact ⟨fun _ => (h1 hb).1, (fun h => nomatch h)⟩
  · have := h2 (by simpa using hb)
    subst this
    refine (may_tr hL h).bind fun b s2 ⟨h1, h2⟩ => Tr.iff (fun hb => ?_) fun hb => ?_
    · exact ⟨fun _ => (h1 hb).1, (fun h => nomatch h)⟩
    · exact ⟨(fun h => nomatch h), fun _ => h2 (by simpa using hb)⟩
theorem array_tr {s : PS} {k : Kd} (h : Iv L s) : Tr (arrayS L k s) fun k' s' => Fs L s s' ∧ k'.at_ = k.at_ := by
  unfold arrayS
  refine (must_tr hL h).bind fun _ s1 ⟨h1, _⟩ => (kind_trS hL (by decide) h1.iv).bind fun lo s2 ⟨h2, _⟩ => (must_tr hL h2.iv).bind fun _ s3 ⟨h3, _⟩ => (kind_trS hL (by decide) h3.iv).bind fun hi s4 ⟨h4, k4, _⟩ => ?_
  refine Tr.iff (fun _ => fail_tr hL (by decide) k4) fun _ => ?_
  refine (must_tr hL h4.iv).bind fun _ s5 ⟨h5, _⟩ => (must_tr hL h5.iv).bind fun _ s6 ⟨h6, _⟩ => (plain_tr hL h6.iv).bind fun p s7 ⟨h7, h7'⟩ => ?_
  have hf : Fs L s s6 := h1.trans (h2.toFw.trans (h3.toFw.trans (h4.toFw.trans (h5.toFw.trans h6.toFw))))
  refine Tr.iff (fun hb => ⟨hf.trans (h7 hb).toFw, rfl⟩) fun hb => ?_
  have := h7' (by simpa using hb)
  subst this
  exact (now_tr hL h6.iv).bind fun t s1 ⟨_, k⟩ => fail_tr hL (by decide) k
theorem typed_tr {s : PS} {kindN : Tx → Int} (h : Iv L s) : Tr (typedS L kindN s) fun k s' => Fs L s s' ∧ ∃ i : Nat, L[i]? = some k.at_ := by
  unfold typedS
  refine (now_tr hL h).bind fun t s1 ⟨e, k1⟩ => ?_
  subst e
  refine (plain_tr hL h).bind fun p s2 ⟨h2, h2'⟩ => Tr.iff (fun hb => ⟨h2 hb, _, k1⟩) fun hb => ?_
  have := h2' (by simpa using hb)
  subst this
  refine (may_tr hL h).bind fun b s3 ⟨h3, h3'⟩ => Tr.iff (fun hb => ?_) fun hb => ?_
  · exact (array_tr hL (h3 hb).1.iv).mono fun k s4 ⟨a, b⟩ => ⟨(h3 hb).1.trans a.toFw, _, by rw [b]; exact k1⟩
  · have := h3' (by simpa using hb)
    subst this
    refine (kind_trS hL (by decide) h).bind fun nm s4 ⟨h4, k4, _⟩ => Tr.iff (fun _ => fail_tr hL (by decide) k4) fun _ => ⟨h4, _, k1⟩
theorem signed_tr {s : PS} (h : Iv L s) : Tr (signedS L s) fun _ s' => Fs L s s' := by
  unfold signedS
  refine (may_tr hL h).bind fun b s1 ⟨h1, h1'⟩ => Tr.iff (fun hb => ?_) fun hb => ?_
  · exact (kind_trS hL (by decide) (h1 hb).1.iv).bind fun t s2 ⟨h2, _⟩ => (h1 hb).1.trans h2.toFw
  · have := h1' (by simpa using hb)
    subst this
    exact (kind_trS hL (by decide) h).bind fun t s2 ⟨h2, _⟩ => h2
theorem value_tr {s : PS} (h : Iv L s) : Tr (valueS L s) fun _ s' => Fs L s s' := by
  unfold valueS
  refine (may_tr hL h).bind fun b s1 ⟨h1, h1'⟩ => Tr.iff (fun hb => (h1 hb).1) fun hb => ?_
  have := h1' (by simpa using hb)
  subst this
  refine (may_tr hL h).bind fun b s1 ⟨h1, h1'⟩ => Tr.iff (fun hb => (h1 hb).1) fun hb => ?_
  have := h1' (by simpa using hb)
  subst this
  exact (signed_tr hL h).bind fun n s2 h2 => h2
theorem names_tr : ∀ (f : Nat) (l : List Sgn) (s : PS), Iv L s → L.length - s.at_ ≤ f → s.vars.length + l.length ≤ 64 → Tr (namesS L f l s) fun l' s' => Fs L s s' ∧ s'.vars.length + l'.length ≤ 64
  | 0, l, s, h, hf, hl => by have := h.at_; omega
  | f + 1, l, s, h, hf, hl => by
    unfold namesS
    refine (kind_trS hL (by decide) h).bind fun t s1 ⟨h1, k1, _⟩ => ?_
    have e1 := h1.vars
    have hlt := h1.lt
    have := h.at_
    refine Tr.iff (fun hb => ?_) fun hb => ?_
    · rw [if_pos (by rw [e1]; omega)]
      exact fail_tr hL (by decide) k1
    · refine (may_tr hL h1.iv).bind fun b s2 ⟨h2, h2'⟩ => Tr.iff (fun hb2 => ?_) fun hb2 => ?_
      · have e2 := (h2 hb2).1.vars
        have l2 := (h2 hb2).1.lt
        exact (names_tr f (l ++ [t]) s2 (h2 hb2).1.iv (by omega) (by rw [e2]; simp; omega)).mono fun l' s3 ⟨a, b⟩ => ⟨h1.trans ((h2 hb2).1.toFw.trans a.toFw), b⟩
      · have := h2' (by simpa using hb2)
        subst this
        exact ⟨h1, by simp; omega⟩
theorem init_tr {s : PS} {k : Kd} (h : Iv L s) {i : Nat} (hk : L[i]? = some k.at_) : Tr (initS L k s) fun _ s' => Fw L s s' := by
  unfold initS
  refine (may_tr hL h).bind fun b s1 ⟨h1, h1'⟩ => Tr.iff (fun hb => ?_) fun hb => ?_
  · exact (value_tr hL (h1 hb).1.iv).bind fun p s2 h2 => Tr.iff (fun _ => fail_tr hL (by decide) hk) fun _ => (h1 hb).1.toFw.trans h2.toFw
  · have := h1' (by simpa using hb)
    subst this
    exact .refl h
/-- A step on that may bring variables. -/
structure Fv (L : List Sgn) (s s' : PS) : Prop where
  iv : Iv L s'
  deep : s'.deep = s.deep
  at_ : s.at_ ≤ s'.at_
theorem declared_tr {s : PS} {kindN : Tx → Int} {f : Nat} {sec : Int} (h : Iv L s) (hf : L.length - s.at_ ≤ f) : Tr (declaredS L kindN f sec s) fun _ s' => Fv L s s' ∧ s.at_ < s'.at_ := by
  unfold declaredS
  refine (names_tr hL f [] s h hf (by simpa using h.vs)).bind fun l s1 ⟨h1, k1⟩ => (must_tr hL h1.iv).bind fun _ s2 ⟨h2, _⟩ => (typed_tr hL h2.iv).bind fun k s3 ⟨h3, i, k3⟩ => (init_tr hL h3.iv k3).bind fun n s4 h4 => (must_tr hL h4.iv).bind fun _ s5 ⟨h5, _⟩ => ?_
  have hf : Fs L s s5 := h1.trans (h2.toFw.trans (h3.toFw.trans (h4.trans h5.toFw)))
  have e : s5.vars = s1.vars := by rw [h5.vars, h4.vars, h3.vars, h2.vars]
  rw [if_pos (by rw [e]; exact k1)]
  exact ⟨⟨⟨hf.iv.at_, hf.iv.d0, hf.iv.d1, by simp only [List.length_append, List.length_map]; rw [e]; exact k1⟩, hf.deep, hf.at_⟩, hf.lt⟩
theorem lines_tr {kindN : Tx → Int} {sec : Int} : ∀ (f : Nat) (s : PS), Iv L s → L.length - s.at_ + 1 ≤ f → Tr (linesS L kindN sec f s) fun _ s' => Fv L s s' ∧ s.at_ < s'.at_
  | 0, s, h, hf => by have := h.at_; omega
  | f + 1, s, h, hf => by
    unfold linesS
    have := h.at_
    refine (may_tr hL h).bind fun b s1 ⟨h1, h1'⟩ => Tr.iff (fun hb => ⟨⟨(h1 hb).1.iv, (h1 hb).1.deep, (h1 hb).1.at_⟩, (h1 hb).1.lt⟩) fun hb => ?_
    have := h1' (by simpa using hb)
    subst this
    refine (declared_tr hL h (by omega)).bind fun _ s2 ⟨h2, h2'⟩ => ?_
    exact (lines_tr f s2 h2.iv (by omega)).mono fun _ s3 ⟨a, b⟩ => ⟨⟨a.iv, a.deep.trans h2.deep, by have := h2.at_; have := a.at_; omega⟩, by omega⟩
theorem section_tr {s : PS} (h : Iv L s) : Tr (sectionS L s) fun o s' => Fw L s s' ∧ (o ≠ none → s.at_ < s'.at_) := by
  unfold sectionS
  refine (may_tr hL h).bind fun b s1 ⟨h1, h1'⟩ => Tr.iff (fun hb => ⟨(h1 hb).1.toFw, fun _ => (h1 hb).1.lt⟩) fun hb => ?_
  have := h1' (by simpa using hb)
  subst this
  refine (may_tr hL h).bind fun b s1 ⟨h1, h1'⟩ => Tr.iff (fun hb => ⟨(h1 hb).1.toFw, fun _ => (h1 hb).1.lt⟩) fun hb => ?_
  have := h1' (by simpa using hb)
  subst this
  refine (may_tr hL h).bind fun b s1 ⟨h1, h1'⟩ => Tr.iff (fun hb => ⟨(h1 hb).1.toFw, fun _ => (h1 hb).1.lt⟩) fun hb => ?_
  have := h1' (by simpa using hb)
  subst this
  exact ⟨.refl h, fun h => absurd rfl h⟩
theorem sections_tr {kindN : Tx → Int} : ∀ (f : Nat) (s : PS), Iv L s → L.length - s.at_ + 2 ≤ f → Tr (sectionsS L kindN f s) fun _ s' => Fv L s s'
  | 0, s, h, hf => by have := h.at_; omega
  | f + 1, s, h, hf => by
    unfold sectionsS
    have := h.at_
    refine (section_tr hL h).bind fun o s1 ⟨h1, h1'⟩ => ?_
    cases o with
    | none => exact ⟨h1.iv, h1.deep, h1.at_⟩
    | some sec =>
      have h2 := h1' (by simp)
      refine (lines_tr hL f s1 h1.iv (by omega)).bind fun _ s2 ⟨h3, h4⟩ => ?_
      exact (sections_tr f s2 h3.iv (by omega)).mono fun _ s3 a => ⟨a.iv, a.deep.trans (h3.deep.trans h1.deep), by have := h3.at_; have := a.at_; omega⟩
theorem labelled_tr {s : PS} (h : Iv L s) : Tr (labelledS L s) fun _ s' => s' = s := by
  unfold labelledS
  refine (now_tr hL h).bind fun t s1 ⟨e, k1⟩ => ?_
  subst e
  exact Tr.iff (fun _ => rfl) fun _ => (is_tr hL h).mono fun b s' ⟨a, _⟩ => a
theorem endCase_tr {s : PS} (h : Iv L s) : Tr (endCaseS L s) fun _ s' => s' = s := by
  unfold endCaseS
  refine (labelled_tr hL h).bind fun t s1 e => ?_
  subst e
  refine Tr.iff (fun _ => rfl) fun _ => (is_tr hL h).bind fun b s2 ⟨e, _⟩ => ?_
  subst e
  exact Tr.iff (fun _ => rfl) fun _ => (is_tr hL h).mono fun b s' ⟨a, _⟩ => a
theorem labels_tr : ∀ (f : Nat) (l : List Int) (s : PS), Iv L s → L.length - s.at_ ≤ f → l.length ≤ 2 * s.at_ → Tr (labelsS L f l s) fun _ s' => Fs L s s'
  | 0, l, s, h, hf, hl => by have := h.at_; omega
  | f + 1, l, s, h, hf, hl => by
    unfold labelsS
    have := h.at_
    have := hL.len
    refine (signed_tr hL h).bind fun lo s1 h1 => (may_tr hL h1.iv).bind fun b s2 ⟨h2, h2'⟩ => ?_
    have h3 : Tr (if b = true then signedS L s2 else .ok lo s2) fun _ s' => Fw L s1 s' := by
      refine Tr.iff (fun hb => (signed_tr hL (h2 hb).1.iv).mono fun _ s' h => (h2 hb).1.toFw.trans h.toFw) fun hb => ?_
      have := h2' (by simpa using hb)
      subst this
      exact Fw.refl h1.iv
    refine h3.bind fun hi s3 h3 => ?_
    have := h1.lt
    have := h3.at_
    have := h3.iv.at_
    rw [if_pos (by omega)]
    refine (may_tr hL h3.iv).bind fun b s4 ⟨h4, h4'⟩ => Tr.iff (fun hb => ?_) fun hb => ?_
    · have h4 := (h4 hb).1
      have := h4.lt
      exact (labels_tr f _ s4 h4.iv (by omega) (by simp; omega)).mono fun _ s' h => h1.trans (h3.trans (h4.toFw.trans h.toFw))
    · have := h4' (by simpa using hb)
      subst this
      exact (must_tr hL h3.iv).bind fun _ s5 ⟨h5, _⟩ => h1.trans (h3.trans h5.toFw)
/-- All of it at once. -/
structure AllE (L : List Sgn) (f : Nat) : Prop where
  level : ∀ (n : Nat) (s : PS), n ≤ 6 → Iv L s → 20 * (L.length - s.at_) + (10 - n) ≤ f → Tr (levelS L f n s) fun _ s' => Fs L s s'
  loop : ∀ (n : Nat) (x : Ex) (s : PS), n < 6 → Iv L s → 20 * (L.length - s.at_) + 1 ≤ f → Tr (levelL L f n x s) fun _ s' => Fw L s s'
  unary : ∀ s : PS, Iv L s → 20 * (L.length - s.at_) + 3 ≤ f → Tr (unaryS L f s) fun _ s' => Fs L s s'
  unop : ∀ (op : Int) (t : Sgn) (s : PS), Iv L s → L[s.at_]? = some t → t.kind ≠ 0 → 20 * (L.length - s.at_) + 2 ≤ f → Tr (unopS L f op t s) fun _ s' => Fs L s s'
  expr : ∀ s : PS, Iv L s → 20 * (L.length - s.at_) + 11 ≤ f → Tr (exprS L f s) fun _ s' => Fs L s s'
  index : ∀ s : PS, Iv L s → 20 * (L.length - s.at_) + 1 ≤ f → Tr (indexS L f s) fun _ s' => Fs L s s'
  factor : ∀ s : PS, Iv L s → 20 * (L.length - s.at_) + 2 ≤ f → Tr (factorS L f s) fun _ s' => Fs L s s'
theorem allE : ∀ f, AllE L f
  | 0 => ⟨fun n s _ h hf => by have := h.at_; omega, fun n x s _ h hf => by have := h.at_; omega, fun s h hf => by have := h.at_; omega, fun op t s h _ _ hf => by have := h.at_; omega, fun s h hf => by have := h.at_; omega, fun s h hf => by have := h.at_; omega, fun s h hf => by have := h.at_; omega⟩
  | f + 1 => by
    have ih := allE f
    refine ⟨?_, ?_, ?_, ?_, ?_, ?_, ?_⟩
    · intro n s hn h hf
      unfold levelS
      refine Tr.iff (fun h6 => ih.unary s h (by omega)) fun h6 => ?_
      rw [if_pos (by omega)]
      refine (ih.level (n + 1) s (by omega) h (by omega)).bind fun x s1 h1 => ?_
      have := h1.lt
      have := h1.iv.at_
      exact (ih.loop n x s1 (by omega) h1.iv (by omega)).mono fun _ s2 h2 => h1.trans h2
    · intro n x s hn h hf
      unfold levelL
      refine (any_tr hL h _).bind fun b s1 ⟨e, h1⟩ => ?_
      subst e
      refine Tr.iff (fun hb => ?_) fun hb => .refl h
      obtain ⟨t, w, ht, _, hw⟩ := h1 hb
      refine (take_tr hL h).bind fun u s2 ⟨k1, k2, k3⟩ => ?_
      rw [ht] at k1
      cases k1
      have k3 := k3 (isW_kind hL hw)
      have := k2.iv.at_
      refine (ih.level (n + 1) s2 (by omega) k2.iv (by omega)).bind fun y s3 h3 => ?_
      have := h3.lt
      have := h3.iv.at_
      exact Tr.iff (fun _ => k2.trans h3.toFw) fun _ => (ih.loop n _ s3 hn h3.iv (by omega)).mono fun _ s4 h4 => k2.trans (h3.toFw.trans h4)
    · intro s h hf
      unfold unaryS
      refine (now_tr hL h).bind fun t s1 ⟨e, k1⟩ => ?_
      subst e
      refine (is_tr hL h).bind fun b s2 ⟨e, t2, k2, k3⟩ => ?_
      subst e
      rw [k1] at k2
      cases k2
      refine Tr.iff (fun hb => ih.unop 6 t s2 h k1 (isW_kind hL (by rw [← k3]; exact hb)) (by omega)) fun hb => ?_
      refine (is_tr hL h).bind fun b s3 ⟨e, t2, k2, k3⟩ => ?_
      subst e
      rw [k1] at k2
      cases k2
      exact Tr.iff (fun hb => ih.unop 7 t s3 h k1 (isW_kind hL (by rw [← k3]; exact hb)) (by omega)) fun hb => ih.factor s3 h (by omega)
    · intro op t s h ht hk hf
      unfold unopS
      refine (in_tr hL h).bind fun _ s1 h1 => (take_tr hL h1.iv).bind fun u s2 ⟨k1, k2, k3⟩ => ?_
      rw [h1.at_, ht] at k1
      cases k1
      have k3 := k3 hk
      have := k2.iv.at_
      have := h1.at_
      refine (ih.unary s2 k2.iv (by omega)).bind fun x s3 h3 => ?_
      exact up_tr hL h h1 (k2.trans h3.toFw) fun s' h4 h5 => ⟨h4, by have := h3.lt; omega⟩
    · intro s h hf
      unfold exprS
      exact ih.level 0 s (by omega) h (by omega)
    · intro s h hf
      unfold indexS
      refine (in_tr hL h).bind fun _ s1 h1 => (must_tr hL h1.iv).bind fun _ s2 ⟨h2, _⟩ => ?_
      have := h1.at_
      have := h2.lt
      have := h2.iv.at_
      refine (ih.expr s2 h2.iv (by omega)).bind fun x s3 h3 => (must_tr hL h3.iv).bind fun _ s4 ⟨h4, _⟩ => ?_
      exact up_tr hL h h1 (h2.toFw.trans (h3.toFw.trans h4.toFw)) fun s' h5 h6 => ⟨h5, by have := h3.lt; have := h4.lt; omega⟩
    · intro s h hf
      unfold factorS
      refine (now_tr hL h).bind fun t s1 ⟨e, k1⟩ => ?_
      subst e
      refine Tr.iff (fun hk => ?_) fun hk => ?_
      · refine (take_tr hL h).bind fun u s2 ⟨k2, k3, k4⟩ => ?_
        rw [k1] at k2
        cases k2
        exact ⟨k3, k4 (by rw [hk]; decide)⟩
      refine (may_tr hL h).bind fun b s2 ⟨h1, h1'⟩ => Tr.iff (fun hb => (h1 hb).1) fun hb => ?_
      have := h1' (by simpa using hb)
      subst this
      refine (may_tr hL h).bind fun b s2 ⟨h1, h1'⟩ => Tr.iff (fun hb => (h1 hb).1) fun hb => ?_
      have := h1' (by simpa using hb)
      subst this
      refine (is_tr hL h).bind fun b s3 ⟨e, t2, k2, k3⟩ => ?_
      subst e
      rw [k1] at k2
      cases k2
      refine Tr.iff (fun hb => ?_) fun hb => ?_
      · refine (in_tr hL h).bind fun _ s1 h1 => (take_tr hL h1.iv).bind fun u s2 ⟨q1, q2, q3⟩ => ?_
        rw [h1.at_, k1] at q1
        cases q1
        have q3 := q3 (isW_kind hL (by rw [← k3]; exact hb))
        have := q2.iv.at_
        have := h1.at_
        refine (ih.expr s2 q2.iv (by omega)).bind fun x s3 h3 => (must_tr hL h3.iv).bind fun _ s4 ⟨h4, _⟩ => ?_
        exact up_tr hL h h1 (q2.trans (h3.toFw.trans h4.toFw)) fun s' h5 h6 => ⟨h5, by have := h3.lt; have := h4.lt; omega⟩
      refine (kind_trS hL (by decide) h).bind fun _ s4 ⟨h4, _⟩ => ?_
      have := h4.lt
      have := h4.iv.at_
      refine (is_tr hL h4.iv).bind fun b s5 ⟨e, _⟩ => ?_
      subst e
      refine Tr.iff (fun hb => (ih.index s5 h4.iv (by omega)).bind fun x s6 h6 => h4.trans h6.toFw) fun hb => ?_
      refine (may_tr hL h4.iv).bind fun b s6 ⟨h6, h6'⟩ => Tr.iff (fun hb => (kind_trS hL (by decide) (h6 hb).1.iv).bind fun u s7 ⟨h7, _⟩ => h4.trans ((h6 hb).1.toFw.trans h7.toFw)) fun hb => ?_
      have := h6' (by simpa using hb)
      subst this
      exact h4
end
end Go.Am
end
