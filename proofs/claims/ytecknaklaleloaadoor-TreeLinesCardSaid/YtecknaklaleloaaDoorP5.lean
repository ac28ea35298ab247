/-
  Texts of one proof, one behind the other.
-/
import Derived.Test.YtecknaklaleloaaDoorP4
set_option linter.all false
section
namespace Go.Am
open Go
inductive Ex where
  | mk (op n : Int) (name field : Tx) (sub : List Ex) (line : Int)
inductive Sm where
  | mk (op : Int) (name : Tx) (to val : Ex) (conds : List Ex) (labels : List (List Int)) (fields : List Tx) (blocks : List (List Sm)) (line : Int)
instance : Inhabited Ex := ⟨.mk 0 0 [] [] [] 0⟩
instance : Inhabited Sm := ⟨.mk 0 [] default default [] [] [] [] 0⟩
structure Vr where
  name : Tx
  ty : Int
  sec : Int
  arr : Bool
  lo : Int
  hi : Int
  init : Int
  line : Int
  deriving DecidableEq
structure Pg where
  name : Tx
  vars : List Vr
  body : List Sm
mutual
def exD : Ex → D
  | .mk op n name field sub line => .agg [.int .i64 op, .int .i64 n, .str name, .str field, .list (exDs sub), .int .i64 line]
def exDs : List Ex → List D
  | [] => []
  | x :: r => exD x :: exDs r
end
theorem exDs_eq : ∀ l : List Ex, exDs l = l.map exD
  | [] => rfl
  | x :: r => by simp [exDs, exDs_eq r]
def exC : Ex → List D
  | .mk op n name field sub line => [.int .i64 op, .int .i64 n, .str name, .str field, .list (exDs sub), .int .i64 line]
theorem exD_C (x : Ex) : exD x = .agg (exC x) := by cases x; rfl
def lbD (l : List Int) : D := .list (l.map fun n => .int .i64 n)
mutual
def smD : Sm → D
  | .mk op name to val conds labels fields blocks line => .agg (.int .i64 op :: .str name :: (exC to ++ (exC val ++ [.list (exDs conds), .list (labels.map lbD), .list (fields.map .str), .list (bksD blocks), .int .i64 line])))
def smDs : List Sm → List D
  | [] => []
  | x :: r => smD x :: smDs r
def bksD : List (List Sm) → List D
  | [] => []
  | b :: r => .list (smDs b) :: bksD r
end
theorem smDs_eq : ∀ l : List Sm, smDs l = l.map smD
  | [] => rfl
  | x :: r => by simp [smDs, smDs_eq r]
theorem bksD_eq : ∀ l : List (List Sm), bksD l = l.map fun b => .list (b.map smD)
  | [] => rfl
  | x :: r => by simp [bksD, bksD_eq r, smDs_eq]
def vrC (v : Vr) : List D := [.str v.name, .int .i64 v.ty, .int .i64 v.sec, .bool v.arr, .int .i64 v.lo, .int .i64 v.hi, .int .i64 v.init, .int .i64 v.line]
def vrD (v : Vr) : D := .agg (vrC v)
theorem vrD_inj {v w : Vr} (h : vrD v = vrD w) : v = w := by
  cases v; cases w
  simp [vrD, vrC] at h
  simp [h]
structure PS where
  at_ : Nat
  deep : Int
  vars : List Vr
structure Er where
  e : Int
  line : Int
  col : Int
  deriving DecidableEq
abbrev PM (α : Type) := PR Er PS α
abbrev wr (n : Int) : Int := IntKind.i64.wrap n
section
variable (L : List Sgn)
def nowS (s : PS) : PM Sgn := match L[s.at_]? with
  | some t => .ok t s
  | none => .out
def failS {α : Type} (e : Int) (t : Sgn) (s : PS) : PM α := .bad ⟨e, t.line, t.col⟩ s
def isW (t : Sgn) (w : Tx) : Bool := (decide (t.kind = 2) || decide (t.kind = 4)) && decide (t.text = w)
def isS (w : Tx) (s : PS) : PM Bool := (nowS L s).bind fun t s => .ok (isW t w) s
def anyS : List Tx → PS → PM Bool
  | [], s => .ok false s
  | w :: r, s => (isS L w s).bind fun b s => if b = true then .ok true s else anyS r s
def takeS (s : PS) : PM Sgn := (nowS L s).bind fun t s => .ok t (if t.kind = 0 then s else { s with at_ := s.at_ + 1 })
def mayS (w : Tx) (s : PS) : PM Bool := (isS L w s).bind fun b s => if b = true then (takeS L s).bind fun _ s => .ok true s else .ok false s
def mustS (w : Tx) (s : PS) : PM Unit := (mayS L w s).bind fun b s => if b = true then .ok () s else (nowS L s).bind fun t s => failS 5 t s
def kindS (k : Int) (s : PS) : PM Sgn := (nowS L s).bind fun t s => if t.kind = k then takeS L s else (nowS L s).bind fun t s => failS 5 t s
def inS (s : PS) : PM Unit := if 32 < wr (s.deep + 1) then (nowS L { s with deep := wr (s.deep + 1) }).bind fun t s => failS 13 t s else .ok () { s with deep := wr (s.deep + 1) }
def outS (s : PS) : PM Unit := .ok () { s with deep := wr (s.deep - 1) }
structure Kd where
  at_ : Sgn
  kind : Int
  arr : Bool
  lo : Int
  hi : Int
def plainS (s : PS) : PM (Int × Bool) := (mayS L [73, 78, 84] s).bind fun b s => if b = true then .ok (1, true) s else (mayS L [66, 79, 79, 76] s).bind fun b s => if b = true then .ok (2, true) s else .ok (0, false) s
def arrayS (k : Kd) (s : PS) : PM Kd :=
  (mustS L [91] s).bind fun _ s => (kindS L 3 s).bind fun lo s => (mustS L [46, 46] s).bind fun _ s => (kindS L 3 s).bind fun hi s =>
  if hi.n < lo.n ∨ 255 < hi.n then failS 1 hi s else
  (mustS L [93] s).bind fun _ s => (mustS L [79, 70] s).bind fun _ s => (plainS L s).bind fun p s =>
  if p.2 = true then .ok ⟨k.at_, p.1, true, lo.n, hi.n⟩ s else (nowS L s).bind fun t s => failS 5 t s
def typedS (kindN : Tx → Int) (s : PS) : PM Kd :=
  (nowS L s).bind fun t s => (plainS L s).bind fun p s =>
  if p.2 = true then .ok ⟨t, p.1, false, 0, 0⟩ s else (mayS L [65, 82, 82, 65, 89] s).bind fun b s =>
  if b = true then arrayS L ⟨t, 0, false, 0, 0⟩ s else (kindS L 1 s).bind fun nm s =>
  if kindN nm.text = 0 then failS 9 nm s else .ok ⟨t, kindN nm.text, false, 0, 0⟩ s
def signedS (s : PS) : PM Int := (mayS L [45] s).bind fun b s => if b = true then (kindS L 3 s).bind fun t s => .ok (wr (-t.n)) s else (kindS L 3 s).bind fun t s => .ok t.n s
def valueS (s : PS) : PM (Int × Bool) := (mayS L [84, 82, 85, 69] s).bind fun b s => if b = true then .ok (1, true) s else (mayS L [70, 65, 76, 83, 69] s).bind fun b s => if b = true then .ok (0, true) s else (signedS L s).bind fun n s => .ok (n, false) s
def namesS : Nat → List Sgn → PS → PM (List Sgn)
  | 0, _, _ => .out
  | f + 1, l, s => (kindS L 1 s).bind fun t s => if 64 < s.vars.length + (l.length + 1) then (if l.length < 100000 ∧ s.vars.length < 100000 then failS 13 t s else .out) else
    (mayS L [44] s).bind fun b s => if b = true then namesS f (l ++ [t]) s else .ok (l ++ [t]) s
def vrOf (k : Kd) (sec init : Int) (t : Sgn) : Vr := ⟨t.text, k.kind, sec, k.arr, k.lo, k.hi, init, t.line⟩
def initS (k : Kd) (s : PS) : PM Int := (mayS L [58, 61] s).bind fun b s =>
  if b = true then (valueS L s).bind fun p s => if k.arr = true ∨ 2 < k.kind ∨ p.2 ≠ decide (k.kind = 2) then failS 1 k.at_ s else .ok p.1 s else .ok 0 s
def declaredS (kindN : Tx → Int) (f : Nat) (sec : Int) (s : PS) : PM Unit :=
  (namesS L f [] s).bind fun l s => (mustS L [58] s).bind fun _ s => (typedS L kindN s).bind fun k s => (initS L k s).bind fun init s => (mustS L [59] s).bind fun _ s =>
  if s.vars.length + l.length ≤ 64 then .ok () { s with vars := s.vars ++ l.map (vrOf k sec init) } else .out
def linesS (kindN : Tx → Int) (sec : Int) : Nat → PS → PM Unit
  | 0, _ => .out
  | f + 1, s => (mayS L [69, 78, 68, 95, 86, 65, 82] s).bind fun b s => if b = true then .ok () s else (declaredS L kindN f sec s).bind fun _ s => linesS kindN sec f s
def sectionS (s : PS) : PM (Option Int) := (mayS L [86, 65, 82] s).bind fun b s => if b = true then .ok (some 0) s else (mayS L [86, 65, 82, 95, 73, 78, 80, 85, 84] s).bind fun b s => if b = true then .ok (some 1) s else
  (mayS L [86, 65, 82, 95, 79, 85, 84, 80, 85, 84] s).bind fun b s => if b = true then .ok (some 2) s else .ok none s
def sectionsS (kindN : Tx → Int) : Nat → PS → PM Unit
  | 0, _ => .out
  | f + 1, s => (sectionS L s).bind fun o s => match o with
    | some sec => (linesS L kindN sec f s).bind fun _ s => sectionsS kindN f s
    | none => .ok () s
def lvT : List (List Tx) := [[[79, 82]], [[88, 79, 82]], [[65, 78, 68]], [[61], [60, 62], [60], [62], [60, 61], [62, 61]], [[43], [45]], [[42], [47], [77, 79, 68]]]
def opT : List Tx := [[43], [45], [42], [47], [77, 79, 68], [61], [60, 62], [60], [62], [60, 61], [62, 61], [65, 78, 68], [88, 79, 82], [79, 82]]
def idxT (w : Tx) : List Tx → Nat → Int
  | [], _ => -1
  | x :: r, i => if w = x then i else idxT w r (i + 1)
def opI (w : Tx) : Int := 8 + idxT w opT 0
def ex0 : Ex := .mk 0 0 [] [] [] 0
def exVar (t : Sgn) : Ex := .mk 3 0 t.text [] [] t.line
def exSub (op : Int) (nm : Tx) (l : List Ex) (line : Int) : Ex := .mk op 0 nm [] l line
def labelledS (s : PS) : PM Bool := (nowS L s).bind fun t s => if t.kind = 3 then .ok true s else isS L [45] s
def labelsS : Nat → List Int → PS → PM (List Int)
  | 0, _, _ => .out
  | f + 1, l, s => (signedS L s).bind fun lo s => (mayS L [46, 46] s).bind fun b s => (if b = true then signedS L s else .ok lo s).bind fun hi s =>
    if l.length < 100000 then (mayS L [44] s).bind fun b s => if b = true then labelsS f (l ++ [lo, hi]) s else (mustS L [58] s).bind fun _ s => .ok (l ++ [lo, hi]) s else .out
def endCaseS (s : PS) : PM Bool := (labelledS L s).bind fun b s => if b = true then .ok true s else (isS L [69, 76, 83, 69] s).bind fun b s => if b = true then .ok true s else isS L [69, 78, 68, 95, 67, 65, 83, 69] s
mutual
def levelS : Nat → Nat → PS → PM Ex
  | 0, _, _ => .out
  | f + 1, n, s => if n = 6 then unaryS f s else if n < 6 then (levelS f (n + 1) s).bind fun x s => levelL f n x s else .out
def levelL : Nat → Nat → Ex → PS → PM Ex
  | 0, _, _, _ => .out
  | f + 1, n, x, s => (anyS L (lvT.getD n []) s).bind fun b s => if b = true then (takeS L s).bind fun t s => (levelS f (n + 1) s).bind fun y s =>
      if n = 3 then .ok (exSub (opI t.text) [] [x, y] t.line) s else levelL f n (exSub (opI t.text) [] [x, y] t.line) s
    else .ok x s
def unaryS : Nat → PS → PM Ex
  | 0, _ => .out
  | f + 1, s => (nowS L s).bind fun t s => (isS L [45] s).bind fun b s =>
    if b = true then unopS f 6 t s else (isS L [78, 79, 84] s).bind fun b s => if b = true then unopS f 7 t s else factorS f s
def unopS : Nat → Int → Sgn → PS → PM Ex
  | 0, _, _, _ => .out
  | f + 1, op, t, s => (inS L s).bind fun _ s => (takeS L s).bind fun _ s => (unaryS f s).bind fun x s => (outS s).bind fun _ s => .ok (exSub op [] [x] t.line) s
def exprS : Nat → PS → PM Ex
  | 0, _ => .out
  | f + 1, s => levelS f 0 s
def indexS : Nat → PS → PM Ex
  | 0, _ => .out
  | f + 1, s => (inS L s).bind fun _ s => (mustS L [91] s).bind fun _ s => (exprS f s).bind fun x s => (mustS L [93] s).bind fun _ s => (outS s).bind fun _ s => .ok x s
def factorS : Nat → PS → PM Ex
  | 0, _ => .out
  | f + 1, s => (nowS L s).bind fun t s =>
    if t.kind = 3 then (takeS L s).bind fun u s => .ok (.mk 1 u.n [] [] [] t.line) s else
    (mayS L [84, 82, 85, 69] s).bind fun b s => if b = true then .ok (.mk 2 1 [] [] [] t.line) s else
    (mayS L [70, 65, 76, 83, 69] s).bind fun b s => if b = true then .ok (.mk 2 0 [] [] [] t.line) s else
    (isS L [40] s).bind fun b s => if b = true then (inS L s).bind fun _ s => (takeS L s).bind fun _ s => (exprS f s).bind fun x s => (mustS L [41] s).bind fun _ s => (outS s).bind fun _ s => .ok x s else
    (kindS L 1 s).bind fun _ s =>
    (isS L [91] s).bind fun b s => if b = true then (indexS f s).bind fun x s => .ok (exSub 4 t.text [x] t.line) s else
    (mayS L [46] s).bind fun b s => if b = true then (kindS L 1 s).bind fun u s => .ok (.mk 5 0 t.text u.text [] t.line) s else .ok (exVar t) s
end
def smOp (op : Int) : Sm := .mk op [] ex0 ex0 [] [] [] [] 0
def smAt (line : Int) : Sm → Sm
  | .mk op name to val conds labels fields blocks _ => .mk op name to val conds labels fields blocks line
mutual
def blockS : Nat → List Tx → PS → PM (List Sm)
  | 0, _, _ => .out
  | f + 1, ends, s => blockL f ends [] s
def blockL : Nat → List Tx → List Sm → PS → PM (List Sm)
  | 0, _, _, _ => .out
  | f + 1, ends, l, s => (anyS L ends s).bind fun b s => if b = true then .ok l s else (stmtS f s).bind fun x s => if l.length < 100000 then blockL f ends (l ++ [x]) s else .out
def stmtS : Nat → PS → PM Sm
  | 0, _ => .out
  | f + 1, s => (nowS L s).bind fun t s => (inS L s).bind fun _ s => (openS f s).bind fun x s => (mustS L [59] s).bind fun _ s => (outS s).bind fun _ s => .ok (smAt t.line x) s
def openS : Nat → PS → PM Sm
  | 0, _ => .out
  | f + 1, s =>
    (mayS L [73, 70] s).bind fun b s => if b = true then branchesS f s else
    (mayS L [67, 65, 83, 69] s).bind fun b s => if b = true then casesS f s else
    (mayS L [70, 79, 82] s).bind fun b s => if b = true then countedS f s else
    (mayS L [87, 72, 73, 76, 69] s).bind fun b s => if b = true then (exprS L f s).bind fun v s => (mustS L [68, 79] s).bind fun _ s => (blockS f [[69, 78, 68, 95, 87, 72, 73, 76, 69]] s).bind fun l s => (mustS L [69, 78, 68, 95, 87, 72, 73, 76, 69] s).bind fun _ s => .ok (.mk 5 [] ex0 v [] [] [] [l] 0) s else
    (mayS L [82, 69, 80, 69, 65, 84] s).bind fun b s => if b = true then (blockS f [[85, 78, 84, 73, 76]] s).bind fun l s => (mustS L [85, 78, 84, 73, 76] s).bind fun _ s => (exprS L f s).bind fun v s => (mustS L [69, 78, 68, 95, 82, 69, 80, 69, 65, 84] s).bind fun _ s => .ok (.mk 6 [] ex0 v [] [] [] [l] 0) s else
    (mayS L [69, 88, 73, 84] s).bind fun b s => if b = true then .ok (smOp 7) s else
    (mayS L [82, 69, 84, 85, 82, 78] s).bind fun b s => if b = true then .ok (smOp 8) s else
    (kindS L 1 s).bind fun nm s => (mayS L [40] s).bind fun b s => if b = true then callS f nm.text s else
    (isS L [91] s).bind fun b s => (if b = true then (indexS L f s).bind fun x s => .ok (exSub 4 nm.text [x] nm.line) s else .ok (exVar nm) s).bind fun to s =>
    (mustS L [58, 61] s).bind fun _ s => (exprS L f s).bind fun v s => .ok (.mk 1 [] to v [] [] [] [] 0) s
def branchesS : Nat → PS → PM Sm
  | 0, _ => .out
  | f + 1, s => branchesL f [] [] s
def branchesL : Nat → List Ex → List (List Sm) → PS → PM Sm
  | 0, _, _, _ => .out
  | f + 1, c, l, s => (exprS L f s).bind fun x s => (mustS L [84, 72, 69, 78] s).bind fun _ s => (blockS f [[69, 76, 83, 73, 70], [69, 76, 83, 69], [69, 78, 68, 95, 73, 70]] s).bind fun b s =>
    if c.length < 100000 ∧ l.length < 100000 then (mayS L [69, 76, 83, 73, 70] s).bind fun m s => if m = true then branchesL f (c ++ [x]) (l ++ [b]) s else
      (mayS L [69, 76, 83, 69] s).bind fun m s => (if m = true then (blockS f [[69, 78, 68, 95, 73, 70]] s).bind fun z s => .ok (l ++ [b] ++ [z]) s else .ok (l ++ [b]) s).bind fun l s => (mustS L [69, 78, 68, 95, 73, 70] s).bind fun _ s => .ok (.mk 2 [] ex0 ex0 (c ++ [x]) [] [] l 0) s
    else .out
def casesS : Nat → PS → PM Sm
  | 0, _ => .out
  | f + 1, s => (exprS L f s).bind fun v s => (mustS L [79, 70] s).bind fun _ s => casesL f v [] [] s
def casesL : Nat → Ex → List (List Int) → List (List Sm) → PS → PM Sm
  | 0, _, _, _, _ => .out
  | f + 1, v, c, l, s => (labelledS L s).bind fun b s =>
    if b = true then (labelsS L f [] s).bind fun x s => (caseL f [] s).bind fun b s => if c.length < 100000 ∧ l.length < 100000 then casesL f v (c ++ [x]) (l ++ [b]) s else .out
    else (mayS L [69, 76, 83, 69] s).bind fun m s => (if m = true then (blockS f [[69, 78, 68, 95, 67, 65, 83, 69]] s).bind fun z s => if l.length < 100000 then .ok (l ++ [z]) s else .out else .ok l s).bind fun l s => (mustS L [69, 78, 68, 95, 67, 65, 83, 69] s).bind fun _ s => .ok (.mk 3 [] ex0 v [] c [] l 0) s
def caseL : Nat → List Sm → PS → PM (List Sm)
  | 0, _, _ => .out
  | f + 1, l, s => (endCaseS L s).bind fun b s => if b = true then .ok l s else (stmtS f s).bind fun x s => if l.length < 100000 then caseL f (l ++ [x]) s else .out
def countedS : Nat → PS → PM Sm
  | 0, _ => .out
  | f + 1, s => (kindS L 1 s).bind fun nm s => (mustS L [58, 61] s).bind fun _ s => (exprS L f s).bind fun a s => (mustS L [84, 79] s).bind fun _ s => (exprS L f s).bind fun b s =>
    (nowS L s).bind fun t s => (mayS L [66, 89] s).bind fun m s => (if m = true then exprS L f s else .ok (.mk 1 1 [] [] [] t.line) s).bind fun c s =>
    (mustS L [68, 79] s).bind fun _ s => (blockS f [[69, 78, 68, 95, 70, 79, 82]] s).bind fun l s => (mustS L [69, 78, 68, 95, 70, 79, 82] s).bind fun _ s => .ok (.mk 4 nm.text ex0 ex0 [a, b, c] [] [] [l] 0) s
def callS : Nat → Tx → PS → PM Sm
  | 0, _, _ => .out
  | f + 1, nm, s => (mayS L [41] s).bind fun b s => if b = true then .ok (.mk 9 nm ex0 ex0 [] [] [] [] 0) s else callL f nm [] [] s
def callL : Nat → Tx → List Tx → List Ex → PS → PM Sm
  | 0, _, _, _, _ => .out
  | f + 1, nm, c, l, s => (kindS L 1 s).bind fun t s => (mustS L [58, 61] s).bind fun _ s => (exprS L f s).bind fun x s =>
    if c.length < 100000 ∧ l.length < 100000 then (mayS L [44] s).bind fun b s => if b = true then callL f nm (c ++ [t.text]) (l ++ [x]) s else (mustS L [41] s).bind fun _ s => .ok (.mk 9 nm ex0 ex0 (l ++ [x]) [] (c ++ [t.text]) [] 0) s
    else .out
end
def programS (kindN : Tx → Int) (f : Nat) (s : PS) : PM Pg :=
  (mustS L [80, 82, 79, 71, 82, 65, 77] s).bind fun _ s => (kindS L 1 s).bind fun nm s => (sectionsS L kindN f s).bind fun _ s => (blockS L f [[69, 78, 68, 95, 80, 82, 79, 71, 82, 65, 77]] s).bind fun l s =>
  (mustS L [69, 78, 68, 95, 80, 82, 79, 71, 82, 65, 77] s).bind fun _ s => (kindS L 0 s).bind fun _ s => .ok ⟨nm.text, s.vars, l⟩ s
end
end Go.Am
end
section
namespace Go.Am
open Go
section
variable {α β : Type}
def Tr (r : PM α) (Q : α → PS → Prop) : Prop := match r with
  | .ok a s => Q a s
  | .bad e _ => 1 ≤ e.line ∧ e.e ≠ 0
  | .out => False
theorem Tr.bind {r : PM α} {k : α → PS → PM β} {Q : α → PS → Prop} {Q' : β → PS → Prop} (h : Tr r Q) (hk : ∀ a s, Q a s → Tr (k a s) Q') : Tr (r.bind k) Q' := by
  cases r with
  | ok a s => exact hk a s h
  | bad e s => exact h
  | out => exact h.elim
theorem Tr.mono {r : PM α} {Q Q' : α → PS → Prop} (h : Tr r Q) (hk : ∀ a s, Q a s → Q' a s) : Tr r Q' := by
  cases r with
  | ok a s => exact hk a s h
  | bad e s => exact h
  | out => exact h.elim
theorem Tr.iff {c : Prop} [Decidable c] {a b : PM α} {Q : α → PS → Prop} (h : c → Tr a Q) (h' : ¬ c → Tr b Q) : Tr (if c then a else b) Q := by
  split
  · exact h ‹_›
  · exact h' ‹_›
theorem Tr.ok {a : α} {s : PS} {Q : α → PS → Prop} (h : Q a s) : Tr (.ok a s) Q := h
end
structure OkL (L : List Sgn) : Prop where
  ends : ∀ (i : Nat) (t : Sgn), L[i]? = some t → (t.kind = 0 ↔ i + 1 = L.length)
  line : ∀ (i : Nat) (t : Sgn), L[i]? = some t → 1 ≤ t.line
  len : L.length ≤ 49999
structure Iv (L : List Sgn) (s : PS) : Prop where
  at_ : s.at_ < L.length
  d0 : 0 ≤ s.deep
  d1 : s.deep ≤ 32
  vs : s.vars.length ≤ 64
structure Fw (L : List Sgn) (s s' : PS) : Prop where
  iv : Iv L s'
  deep : s'.deep = s.deep
  vars : s'.vars = s.vars
  at_ : s.at_ ≤ s'.at_
structure Fs (L : List Sgn) (s s' : PS) : Prop extends Fw L s s' where
  lt : s.at_ < s'.at_
theorem Fw.refl {L s} (h : Iv L s) : Fw L s s := ⟨h, rfl, rfl, Nat.le_refl _⟩
theorem Fw.trans {L s s1 s2} (h : Fw L s s1) (k : Fw L s1 s2) : Fw L s s2 := ⟨k.iv, k.deep.trans h.deep, k.vars.trans h.vars, Nat.le_trans h.at_ k.at_⟩
theorem Fs.trans {L s s1 s2} (h : Fs L s s1) (k : Fw L s1 s2) : Fs L s s2 := ⟨h.toFw.trans k, Nat.lt_of_lt_of_le h.lt k.at_⟩
theorem Fw.transS {L s s1 s2} (h : Fw L s s1) (k : Fs L s1 s2) : Fs L s s2 := ⟨h.trans k.toFw, Nat.lt_of_le_of_lt h.at_ k.lt⟩
section
variable {L : List Sgn} (hL : OkL L)
include hL
theorem now_tr {s : PS} (h : Iv L s) : Tr (nowS L s) fun t s' => s' = s ∧ L[s.at_]? = some t := by
  have := h.at_
  unfold nowS
  rw [List.getElem?_eq_getElem this]
  exact ⟨rfl, rfl⟩
theorem fail_tr {α : Type} {Q : α → PS → Prop} {e : Int} {t : Sgn} {s : PS} {i : Nat} (he : e ≠ 0) (ht : L[i]? = some t) : Tr (failS e t s) Q := ⟨hL.line i t ht, he⟩
theorem is_tr {s : PS} {w : Tx} (h : Iv L s) : Tr (isS L w s) fun b s' => s' = s ∧ ∃ t : Sgn, L[s.at_]? = some t ∧ b = isW t w := by
  unfold isS
  refine (now_tr hL h).bind fun t s' ⟨h1, h2⟩ => ?_
  exact ⟨h1, t, h2, rfl⟩
theorem any_tr {s : PS} (h : Iv L s) : ∀ ws : List Tx, Tr (anyS L ws s) fun b s' => s' = s ∧ (b = true → ∃ (t : Sgn) (w : Tx), L[s.at_]? = some t ∧ w ∈ ws ∧ isW t w = true)
  | [] => ⟨rfl, by simp⟩
  | w :: r => by
    unfold anyS
    refine (is_tr hL h).bind fun b s' ⟨h1, t, h2, h3⟩ => ?_
    subst h1
    refine Tr.iff (fun hb => ⟨rfl, fun _ => ⟨t, w, h2, by simp, by rw [← h3]; exact hb⟩⟩) fun hb => ?_
    exact (any_tr h r).mono fun b s' ⟨h1, h2⟩ => ⟨h1, fun hb => by obtain ⟨t, w', a, b, c⟩ := h2 hb; exact ⟨t, w', a, by simp [b], c⟩⟩
theorem take_tr {s : PS} (h : Iv L s) : Tr (takeS L s) fun t s' => L[s.at_]? = some t ∧ Fw L s s' ∧ (t.kind ≠ 0 → s.at_ < s'.at_) := by
  unfold takeS
  refine (now_tr hL h).bind fun t s' ⟨h1, h2⟩ => ?_
  subst h1
  refine ⟨h2, ?_⟩
  have he := hL.ends _ _ h2
  have hl := h.at_
  split
  · rename_i h0
    exact ⟨.refl h, fun hk => absurd h0 hk⟩
  · rename_i h0
    have hne : ¬ (s'.at_ + 1 = L.length) := fun e => h0 (he.2 e)
    exact ⟨⟨⟨by simp only; omega, h.d0, h.d1, h.vs⟩, rfl, rfl, by simp⟩, fun _ => by simp⟩
theorem isW_kind {t : Sgn} {w : Tx} (h : isW t w = true) : t.kind ≠ 0 := by
  simp [isW] at h
  omega
theorem may_tr {s : PS} {w : Tx} (h : Iv L s) : Tr (mayS L w s) fun b s' => (b = true → Fs L s s' ∧ ∃ t : Sgn, L[s.at_]? = some t ∧ isW t w = true) ∧ (b = false → s' = s) := by
  unfold mayS
  refine (is_tr hL h).bind fun b s' ⟨h1, t, h2, h3⟩ => ?_
  subst h1
  refine Tr.iff (fun hb => ?_) fun hb => ⟨(fun h => nomatch h), fun _ => rfl⟩
  refine (take_tr hL h).bind fun u s1 ⟨k1, k2, k3⟩ => ?_
  rw [h2] at k1
  cases k1
  refine ⟨fun _ => ⟨⟨k2, k3 (isW_kind hL (by rw [← h3]; exact hb))⟩, t, h2, by rw [← h3]; exact hb⟩, (fun h => nomatch h)⟩
theorem must_tr {s : PS} {w : Tx} (h : Iv L s) : Tr (mustS L w s) fun _ s' => Fs L s s' ∧ ∃ t : Sgn, L[s.at_]? = some t ∧ isW t w = true := by
  unfold mustS
  refine (may_tr hL h).bind fun b s' ⟨h1, h2⟩ => ?_
  refine Tr.iff (fun hb => h1 hb) fun hb => ?_
  have := h2 (by simpa using hb)
  subst this
  exact (now_tr hL h).bind fun t s1 ⟨_, k⟩ => fail_tr hL (by decide) k
theorem kind_tr {s : PS} {k : Int} (h : Iv L s) : Tr (kindS L k s) fun t s' => Fw L s s' ∧ L[s.at_]? = some t ∧ t.kind = k ∧ (k ≠ 0 → s.at_ < s'.at_) := by
  unfold kindS
  refine (now_tr hL h).bind fun t s' ⟨h1, h2⟩ => ?_
  subst h1
  refine Tr.iff (fun hb => ?_) fun hb => ?_
  · refine (take_tr hL h).mono fun u s1 ⟨k1, k2, k3⟩ => ?_
    rw [h2] at k1
    cases k1
    exact ⟨k2, h2, hb, fun hk => k3 (by rw [hb]; exact hk)⟩
  · exact (now_tr hL h).bind fun t s1 ⟨_, k⟩ => fail_tr hL (by decide) k
theorem kind_trS {s : PS} {k : Int} (hk : k ≠ 0) (h : Iv L s) : Tr (kindS L k s) fun t s' => Fs L s s' ∧ L[s.at_]? = some t ∧ t.kind = k :=
  (kind_tr hL h).mono fun _ _ ⟨a, b, c, d⟩ => ⟨⟨a, d hk⟩, b, c⟩
structure Dn (L : List Sgn) (s s' : PS) : Prop where
  iv : Iv L s'
  deep : s'.deep = s.deep + 1
  vars : s'.vars = s.vars
  at_ : s'.at_ = s.at_
omit hL in
theorem wr_small {n : Int} (h : -100 ≤ n) (h' : n ≤ 100000000) : wr n = n := IntWalk.i64_in _ (by omega)
theorem in_tr {s : PS} (h : Iv L s) : Tr (inS L s) fun _ s' => Dn L s s' := by
  have h0 := h.d0
  have h1 := h.d1
  unfold inS
  rw [wr_small (by omega) (by omega)]
  refine Tr.iff (fun hb => ?_) fun hb => ?_
  · unfold nowS
    rw [List.getElem?_eq_getElem h.at_]
    exact fail_tr hL (by decide) (List.getElem?_eq_getElem h.at_)
  · exact ⟨⟨h.at_, by simp only; omega, by simp only; omega, h.vs⟩, rfl, rfl, rfl⟩
theorem up_tr {α : Type} {s s1 s2 : PS} (h : Iv L s) (hd : Dn L s s1) (hf : Fw L s1 s2) {k : PS → PM α} {Q : α → PS → Prop} (hk : ∀ s', Fw L s s' → s'.at_ = s2.at_ → Tr (k s') Q) : Tr ((outS s2).bind fun _ s => k s) Q := by
  have h0 := h.d0
  have h1 := h.d1
  have e1 := hd.deep
  have e2 := hf.deep
  have e3 : s2.deep - 1 = s.deep := by omega
  unfold outS
  rw [e3, wr_small (by omega) (by omega)]
  exact hk _ ⟨⟨hf.iv.at_, h0, h1, hf.iv.vs⟩, rfl, hf.vars.trans hd.vars, by have := hf.at_; have := hd.at_; simp only; omega⟩ rfl
theorem plain_tr {s : PS} (h : Iv L s) : Tr (plainS L s) fun p s' => (p.2 = true → Fs L s s') ∧ (p.2 = false → s' = s) := by
  unfold plainS
  refine (may_tr hL h).bind fun b s1 ⟨h1, h2⟩ => Tr.iff (fun hb => ?_) fun hb => ?_
  · exact ⟨fun _ => (h1 hb).1, (fun h => nomatch h)⟩
  · have := h2 (by simpa using hb)
    subst this
    refine (may_tr hL h).bind fun b s2 ⟨h1, h2⟩ => Tr.iff (fun hb => ?_) fun hb => ?_
    · exact ⟨fun _ => (h1 hb).1, (fun h => nomatch h)⟩
    · exact ⟨(fun h => nomatch h), fun _ => h2 (by simpa using hb)⟩
theorem array_tr {s : PS} {k : Kd} (h : Iv L s) : Tr (arrayS L k s) fun k' s' => Fs L s s' ∧ k'.at_ = k.at_ := by
  unfold arrayS
  refine (must_tr hL h).bind fun _ s1 ⟨h1, _⟩ => (kind_trS hL (by decide) h1.iv).bind fun lo s2 ⟨h2, _⟩ => (must_tr hL h2.iv).bind fun _ s3 ⟨h3, _⟩ => (kind_trS hL (by decide) h3.iv).bind fun hi s4 ⟨h4, k4, _⟩ => ?_
  refine Tr.iff (fun _ => fail_tr hL (by decide) k4) fun _ => ?_
  refine (must_tr hL h4.iv).bind fun _ s5 ⟨h5, _⟩ => (must_tr hL h5.iv).bind fun _ s6 ⟨h6, _⟩ => (plain_tr hL h6.iv).bind fun p s7 ⟨h7, h7'⟩ => ?_
  have hf : Fs L s s6 := h1.trans (h2.toFw.trans (h3.toFw.trans (h4.toFw.trans (h5.toFw.trans h6.toFw))))
  refine Tr.iff (fun hb => ⟨hf.trans (h7 hb).toFw, rfl⟩) fun hb => ?_
  have := h7' (by simpa using hb)
  subst this
  exact (now_tr hL h6.iv).bind fun t s1 ⟨_, k⟩ => fail_tr hL (by decide) k
theorem typed_tr {s : PS} {kindN : Tx → Int} (h : Iv L s) : Tr (typedS L kindN s) fun k s' => Fs L s s' ∧ ∃ i : Nat, L[i]? = some k.at_ := by
  unfold typedS
  refine (now_tr hL h).bind fun t s1 ⟨e, k1⟩ => ?_
  subst e
  refine (plain_tr hL h).bind fun p s2 ⟨h2, h2'⟩ => Tr.iff (fun hb => ⟨h2 hb, _, k1⟩) fun hb => ?_
  have := h2' (by simpa using hb)
  subst this
  refine (may_tr hL h).bind fun b s3 ⟨h3, h3'⟩ => Tr.iff (fun hb => ?_) fun hb => ?_
  · exact (array_tr hL (h3 hb).1.iv).mono fun k s4 ⟨a, b⟩ => ⟨(h3 hb).1.trans a.toFw, _, by rw [b]; exact k1⟩
  · have := h3' (by simpa using hb)
    subst this
    refine (kind_trS hL (by decide) h).bind fun nm s4 ⟨h4, k4, _⟩ => Tr.iff (fun _ => fail_tr hL (by decide) k4) fun _ => ⟨h4, _, k1⟩
theorem signed_tr {s : PS} (h : Iv L s) : Tr (signedS L s) fun _ s' => Fs L s s' := by
  unfold signedS
  refine (may_tr hL h).bind fun b s1 ⟨h1, h1'⟩ => Tr.iff (fun hb => ?_) fun hb => ?_
  · exact (kind_trS hL (by decide) (h1 hb).1.iv).bind fun t s2 ⟨h2, _⟩ => (h1 hb).1.trans h2.toFw
  · have := h1' (by simpa using hb)
    subst this
    exact (kind_trS hL (by decide) h).bind fun t s2 ⟨h2, _⟩ => h2
theorem value_tr {s : PS} (h : Iv L s) : Tr (valueS L s) fun _ s' => Fs L s s' := by
  unfold valueS
  refine (may_tr hL h).bind fun b s1 ⟨h1, h1'⟩ => Tr.iff (fun hb => (h1 hb).1) fun hb => ?_
  have := h1' (by simpa using hb)
  subst this
  refine (may_tr hL h).bind fun b s1 ⟨h1, h1'⟩ => Tr.iff (fun hb => (h1 hb).1) fun hb => ?_
  have := h1' (by simpa using hb)
  subst this
  exact (signed_tr hL h).bind fun n s2 h2 => h2
theorem names_tr : ∀ (f : Nat) (l : List Sgn) (s : PS), Iv L s → L.length - s.at_ ≤ f → s.vars.length + l.length ≤ 64 → Tr (namesS L f l s) fun l' s' => Fs L s s' ∧ s'.vars.length + l'.length ≤ 64
  | 0, l, s, h, hf, hl => by have := h.at_; omega
  | f + 1, l, s, h, hf, hl => by
    unfold namesS
    refine (kind_trS hL (by decide) h).bind fun t s1 ⟨h1, k1, _⟩ => ?_
    have e1 := h1.vars
    have hlt := h1.lt
    have := h.at_
    refine Tr.iff (fun hb => ?_) fun hb => ?_
    · rw [if_pos (by rw [e1]; omega)]
      exact fail_tr hL (by decide) k1
    · refine (may_tr hL h1.iv).bind fun b s2 ⟨h2, h2'⟩ => Tr.iff (fun hb2 => ?_) fun hb2 => ?_
      · have e2 := (h2 hb2).1.vars
        have l2 := (h2 hb2).1.lt
        exact (names_tr f (l ++ [t]) s2 (h2 hb2).1.iv (by omega) (by rw [e2]; simp; omega)).mono fun l' s3 ⟨a, b⟩ => ⟨h1.trans ((h2 hb2).1.toFw.trans a.toFw), b⟩
      · have := h2' (by simpa using hb2)
        subst this
        exact ⟨h1, by simp; omega⟩
theorem init_tr {s : PS} {k : Kd} (h : Iv L s) {i : Nat} (hk : L[i]? = some k.at_) : Tr (initS L k s) fun _ s' => Fw L s s' := by
  unfold initS
  refine (may_tr hL h).bind fun b s1 ⟨h1, h1'⟩ => Tr.iff (fun hb => ?_) fun hb => ?_
  · exact (value_tr hL (h1 hb).1.iv).bind fun p s2 h2 => Tr.iff (fun _ => fail_tr hL (by decide) hk) fun _ => (h1 hb).1.toFw.trans h2.toFw
  · have := h1' (by simpa using hb)
    subst this
    exact .refl h
structure Fv (L : List Sgn) (s s' : PS) : Prop where
  iv : Iv L s'
  deep : s'.deep = s.deep
  at_ : s.at_ ≤ s'.at_
theorem declared_tr {s : PS} {kindN : Tx → Int} {f : Nat} {sec : Int} (h : Iv L s) (hf : L.length - s.at_ ≤ f) : Tr (declaredS L kindN f sec s) fun _ s' => Fv L s s' ∧ s.at_ < s'.at_ := by
  unfold declaredS
  refine (names_tr hL f [] s h hf (by simpa using h.vs)).bind fun l s1 ⟨h1, k1⟩ => (must_tr hL h1.iv).bind fun _ s2 ⟨h2, _⟩ => (typed_tr hL h2.iv).bind fun k s3 ⟨h3, i, k3⟩ => (init_tr hL h3.iv k3).bind fun n s4 h4 => (must_tr hL h4.iv).bind fun _ s5 ⟨h5, _⟩ => ?_
  have hf : Fs L s s5 := h1.trans (h2.toFw.trans (h3.toFw.trans (h4.trans h5.toFw)))
  have e : s5.vars = s1.vars := by rw [h5.vars, h4.vars, h3.vars, h2.vars]
  rw [if_pos (by rw [e]; exact k1)]
  exact ⟨⟨⟨hf.iv.at_, hf.iv.d0, hf.iv.d1, by simp only [List.length_append, List.length_map]; rw [e]; exact k1⟩, hf.deep, hf.at_⟩, hf.lt⟩
theorem lines_tr {kindN : Tx → Int} {sec : Int} : ∀ (f : Nat) (s : PS), Iv L s → L.length - s.at_ + 1 ≤ f → Tr (linesS L kindN sec f s) fun _ s' => Fv L s s' ∧ s.at_ < s'.at_
  | 0, s, h, hf => by have := h.at_; omega
  | f + 1, s, h, hf => by
    unfold linesS
    have := h.at_
    refine (may_tr hL h).bind fun b s1 ⟨h1, h1'⟩ => Tr.iff (fun hb => ⟨⟨(h1 hb).1.iv, (h1 hb).1.deep, (h1 hb).1.at_⟩, (h1 hb).1.lt⟩) fun hb => ?_
    have := h1' (by simpa using hb)
    subst this
    refine (declared_tr hL h (by omega)).bind fun _ s2 ⟨h2, h2'⟩ => ?_
    exact (lines_tr f s2 h2.iv (by omega)).mono fun _ s3 ⟨a, b⟩ => ⟨⟨a.iv, a.deep.trans h2.deep, by have := h2.at_; have := a.at_; omega⟩, by omega⟩
theorem section_tr {s : PS} (h : Iv L s) : Tr (sectionS L s) fun o s' => Fw L s s' ∧ (o ≠ none → s.at_ < s'.at_) := by
  unfold sectionS
  refine (may_tr hL h).bind fun b s1 ⟨h1, h1'⟩ => Tr.iff (fun hb => ⟨(h1 hb).1.toFw, fun _ => (h1 hb).1.lt⟩) fun hb => ?_
  have := h1' (by simpa using hb)
  subst this
  refine (may_tr hL h).bind fun b s1 ⟨h1, h1'⟩ => Tr.iff (fun hb => ⟨(h1 hb).1.toFw, fun _ => (h1 hb).1.lt⟩) fun hb => ?_
  have := h1' (by simpa using hb)
  subst this
  refine (may_tr hL h).bind fun b s1 ⟨h1, h1'⟩ => Tr.iff (fun hb => ⟨(h1 hb).1.toFw, fun _ => (h1 hb).1.lt⟩) fun hb => ?_
  have := h1' (by simpa using hb)
  subst this
  exact ⟨.refl h, fun h => absurd rfl h⟩
theorem sections_tr {kindN : Tx → Int} : ∀ (f : Nat) (s : PS), Iv L s → L.length - s.at_ + 2 ≤ f → Tr (sectionsS L kindN f s) fun _ s' => Fv L s s'
  | 0, s, h, hf => by have := h.at_; omega
  | f + 1, s, h, hf => by
    unfold sectionsS
    have := h.at_
    refine (section_tr hL h).bind fun o s1 ⟨h1, h1'⟩ => ?_
    cases o with
    | none => exact ⟨h1.iv, h1.deep, h1.at_⟩
    | some sec =>
      have h2 := h1' (by simp)
      refine (lines_tr hL f s1 h1.iv (by omega)).bind fun _ s2 ⟨h3, h4⟩ => ?_
      exact (sections_tr f s2 h3.iv (by omega)).mono fun _ s3 a => ⟨a.iv, a.deep.trans (h3.deep.trans h1.deep), by have := h3.at_; have := a.at_; omega⟩
theorem labelled_tr {s : PS} (h : Iv L s) : Tr (labelledS L s) fun _ s' => s' = s := by
  unfold labelledS
  refine (now_tr hL h).bind fun t s1 ⟨e, k1⟩ => ?_
  subst e
  exact Tr.iff (fun _ => rfl) fun _ => (is_tr hL h).mono fun b s' ⟨a, _⟩ => a
theorem endCase_tr {s : PS} (h : Iv L s) : Tr (endCaseS L s) fun _ s' => s' = s := by
  unfold endCaseS
  refine (labelled_tr hL h).bind fun t s1 e => ?_
  subst e
  refine Tr.iff (fun _ => rfl) fun _ => (is_tr hL h).bind fun b s2 ⟨e, _⟩ => ?_
  subst e
  exact Tr.iff (fun _ => rfl) fun _ => (is_tr hL h).mono fun b s' ⟨a, _⟩ => a
theorem labels_tr : ∀ (f : Nat) (l : List Int) (s : PS), Iv L s → L.length - s.at_ ≤ f → l.length ≤ 2 * s.at_ → Tr (labelsS L f l s) fun _ s' => Fs L s s'
  | 0, l, s, h, hf, hl => by have := h.at_; omega
  | f + 1, l, s, h, hf, hl => by
    unfold labelsS
    have := h.at_
    have := hL.len
    refine (signed_tr hL h).bind fun lo s1 h1 => (may_tr hL h1.iv).bind fun b s2 ⟨h2, h2'⟩ => ?_
    have h3 : Tr (if b = true then signedS L s2 else .ok lo s2) fun _ s' => Fw L s1 s' := by
      refine Tr.iff (fun hb => (signed_tr hL (h2 hb).1.iv).mono fun _ s' h => (h2 hb).1.toFw.trans h.toFw) fun hb => ?_
      have := h2' (by simpa using hb)
      subst this
      exact Fw.refl h1.iv
    refine h3.bind fun hi s3 h3 => ?_
    have := h1.lt
    have := h3.at_
    have := h3.iv.at_
    rw [if_pos (by omega)]
    refine (may_tr hL h3.iv).bind fun b s4 ⟨h4, h4'⟩ => Tr.iff (fun hb => ?_) fun hb => ?_
    · have h4 := (h4 hb).1
      have := h4.lt
      exact (labels_tr f _ s4 h4.iv (by omega) (by simp; omega)).mono fun _ s' h => h1.trans (h3.trans (h4.toFw.trans h.toFw))
    · have := h4' (by simpa using hb)
      subst this
      exact (must_tr hL h3.iv).bind fun _ s5 ⟨h5, _⟩ => h1.trans (h3.trans h5.toFw)
structure AllE (L : List Sgn) (f : Nat) : Prop where
  level : ∀ (n : Nat) (s : PS), n ≤ 6 → Iv L s → 20 * (L.length - s.at_) + (10 - n) ≤ f → Tr (levelS L f n s) fun _ s' => Fs L s s'
  loop : ∀ (n : Nat) (x : Ex) (s : PS), n < 6 → Iv L s → 20 * (L.length - s.at_) + 1 ≤ f → Tr (levelL L f n x s) fun _ s' => Fw L s s'
  unary : ∀ s : PS, Iv L s → 20 * (L.length - s.at_) + 3 ≤ f → Tr (unaryS L f s) fun _ s' => Fs L s s'
  unop : ∀ (op : Int) (t : Sgn) (s : PS), Iv L s → L[s.at_]? = some t → t.kind ≠ 0 → 20 * (L.length - s.at_) + 2 ≤ f → Tr (unopS L f op t s) fun _ s' => Fs L s s'
  expr : ∀ s : PS, Iv L s → 20 * (L.length - s.at_) + 11 ≤ f → Tr (exprS L f s) fun _ s' => Fs L s s'
  index : ∀ s : PS, Iv L s → 20 * (L.length - s.at_) + 1 ≤ f → Tr (indexS L f s) fun _ s' => Fs L s s'
  factor : ∀ s : PS, Iv L s → 20 * (L.length - s.at_) + 2 ≤ f → Tr (factorS L f s) fun _ s' => Fs L s s'
theorem allE : ∀ f, AllE L f
  | 0 => ⟨fun n s _ h hf => by have := h.at_; omega, fun n x s _ h hf => by have := h.at_; omega, fun s h hf => by have := h.at_; omega, fun op t s h _ _ hf => by have := h.at_; omega, fun s h hf => by have := h.at_; omega, fun s h hf => by have := h.at_; omega, fun s h hf => by have := h.at_; omega⟩
  | f + 1 => by
    have ih := allE f
    refine ⟨?_, ?_, ?_, ?_, ?_, ?_, ?_⟩
    · intro n s hn h hf
      unfold levelS
      refine Tr.iff (fun h6 => ih.unary s h (by omega)) fun h6 => ?_
      rw [if_pos (by omega)]
      refine (ih.level (n + 1) s (by omega) h (by omega)).bind fun x s1 h1 => ?_
      have := h1.lt
      have := h1.iv.at_
      exact (ih.loop n x s1 (by omega) h1.iv (by omega)).mono fun _ s2 h2 => h1.trans h2
    · intro n x s hn h hf
      unfold levelL
      refine (any_tr hL h _).bind fun b s1 ⟨e, h1⟩ => ?_
      subst e
      refine Tr.iff (fun hb => ?_) fun hb => .refl h
      obtain ⟨t, w, ht, _, hw⟩ := h1 hb
      refine (take_tr hL h).bind fun u s2 ⟨k1, k2, k3⟩ => ?_
      rw [ht] at k1
      cases k1
      have k3 := k3 (isW_kind hL hw)
      have := k2.iv.at_
      refine (ih.level (n + 1) s2 (by omega) k2.iv (by omega)).bind fun y s3 h3 => ?_
      have := h3.lt
      have := h3.iv.at_
      exact Tr.iff (fun _ => k2.trans h3.toFw) fun _ => (ih.loop n _ s3 hn h3.iv (by omega)).mono fun _ s4 h4 => k2.trans (h3.toFw.trans h4)
    · intro s h hf
      unfold unaryS
      refine (now_tr hL h).bind fun t s1 ⟨e, k1⟩ => ?_
      subst e
      refine (is_tr hL h).bind fun b s2 ⟨e, t2, k2, k3⟩ => ?_
      subst e
      rw [k1] at k2
      cases k2
      refine Tr.iff (fun hb => ih.unop 6 t s2 h k1 (isW_kind hL (by rw [← k3]; exact hb)) (by omega)) fun hb => ?_
      refine (is_tr hL h).bind fun b s3 ⟨e, t2, k2, k3⟩ => ?_
      subst e
      rw [k1] at k2
      cases k2
      exact Tr.iff (fun hb => ih.unop 7 t s3 h k1 (isW_kind hL (by rw [← k3]; exact hb)) (by omega)) fun hb => ih.factor s3 h (by omega)
    · intro op t s h ht hk hf
      unfold unopS
      refine (in_tr hL h).bind fun _ s1 h1 => (take_tr hL h1.iv).bind fun u s2 ⟨k1, k2, k3⟩ => ?_
      rw [h1.at_, ht] at k1
      cases k1
      have k3 := k3 hk
      have := k2.iv.at_
      have := h1.at_
      refine (ih.unary s2 k2.iv (by omega)).bind fun x s3 h3 => ?_
      exact up_tr hL h h1 (k2.trans h3.toFw) fun s' h4 h5 => ⟨h4, by have := h3.lt; omega⟩
    · intro s h hf
      unfold exprS
      exact ih.level 0 s (by omega) h (by omega)
    · intro s h hf
      unfold indexS
      refine (in_tr hL h).bind fun _ s1 h1 => (must_tr hL h1.iv).bind fun _ s2 ⟨h2, _⟩ => ?_
      have := h1.at_
      have := h2.lt
      have := h2.iv.at_
      refine (ih.expr s2 h2.iv (by omega)).bind fun x s3 h3 => (must_tr hL h3.iv).bind fun _ s4 ⟨h4, _⟩ => ?_
      exact up_tr hL h h1 (h2.toFw.trans (h3.toFw.trans h4.toFw)) fun s' h5 h6 => ⟨h5, by have := h3.lt; have := h4.lt; omega⟩
    · intro s h hf
      unfold factorS
      refine (now_tr hL h).bind fun t s1 ⟨e, k1⟩ => ?_
      subst e
      refine Tr.iff (fun hk => ?_) fun hk => ?_
      · refine (take_tr hL h).bind fun u s2 ⟨k2, k3, k4⟩ => ?_
        rw [k1] at k2
        cases k2
        exact ⟨k3, k4 (by rw [hk]; decide)⟩
      refine (may_tr hL h).bind fun b s2 ⟨h1, h1'⟩ => Tr.iff (fun hb => (h1 hb).1) fun hb => ?_
      have := h1' (by simpa using hb)
      subst this
      refine (may_tr hL h).bind fun b s2 ⟨h1, h1'⟩ => Tr.iff (fun hb => (h1 hb).1) fun hb => ?_
      have := h1' (by simpa using hb)
      subst this
      refine (is_tr hL h).bind fun b s3 ⟨e, t2, k2, k3⟩ => ?_
      subst e
      rw [k1] at k2
      cases k2
      refine Tr.iff (fun hb => ?_) fun hb => ?_
      · refine (in_tr hL h).bind fun _ s1 h1 => (take_tr hL h1.iv).bind fun u s2 ⟨q1, q2, q3⟩ => ?_
        rw [h1.at_, k1] at q1
        cases q1
        have q3 := q3 (isW_kind hL (by rw [← k3]; exact hb))
        have := q2.iv.at_
        have := h1.at_
        refine (ih.expr s2 q2.iv (by omega)).bind fun x s3 h3 => (must_tr hL h3.iv).bind fun _ s4 ⟨h4, _⟩ => ?_
        exact up_tr hL h h1 (q2.trans (h3.toFw.trans h4.toFw)) fun s' h5 h6 => ⟨h5, by have := h3.lt; have := h4.lt; omega⟩
      refine (kind_trS hL (by decide) h).bind fun _ s4 ⟨h4, _⟩ => ?_
      have := h4.lt
      have := h4.iv.at_
      refine (is_tr hL h4.iv).bind fun b s5 ⟨e, _⟩ => ?_
      subst e
      refine Tr.iff (fun hb => (ih.index s5 h4.iv (by omega)).bind fun x s6 h6 => h4.trans h6.toFw) fun hb => ?_
      refine (may_tr hL h4.iv).bind fun b s6 ⟨h6, h6'⟩ => Tr.iff (fun hb => (kind_trS hL (by decide) (h6 hb).1.iv).bind fun u s7 ⟨h7, _⟩ => h4.trans ((h6 hb).1.toFw.trans h7.toFw)) fun hb => ?_
      have := h6' (by simpa using hb)
      subst this
      exact h4
end
end Go.Am
end
section
namespace Go.Am
open Go
def eS (t : Sgn) : Sgn := ⟨t.kind, t.text, t.n, 0, 0⟩
def eV (v : Vr) : Vr := ⟨v.name, v.ty, v.sec, v.arr, v.lo, v.hi, v.init, 0⟩
mutual
def eE : Ex → Ex
  | .mk op n a b l _ => .mk op n a b (eEs l) 0
def eEs : List Ex → List Ex
  | [] => []
  | x :: r => eE x :: eEs r
end
theorem eEs_eq : ∀ l : List Ex, eEs l = l.map eE
  | [] => rfl
  | x :: r => by simp [eEs, eEs_eq r]
mutual
def eM : Sm → Sm
  | .mk op name to val conds labels fields blocks _ => .mk op name (eE to) (eE val) (eEs conds) labels fields (eBs blocks) 0
def eMs : List Sm → List Sm
  | [] => []
  | x :: r => eM x :: eMs r
def eBs : List (List Sm) → List (List Sm)
  | [] => []
  | b :: r => eMs b :: eBs r
end
theorem eMs_eq : ∀ l : List Sm, eMs l = l.map eM
  | [] => rfl
  | x :: r => by simp [eMs, eMs_eq r]
theorem eBs_eq : ∀ l : List (List Sm), eBs l = l.map (List.map eM)
  | [] => rfl
  | b :: r => by simp [eBs, eBs_eq r, eMs_eq]
theorem smAt_e (x : Sm) (l : Int) : smAt 0 (eM x) = eM (smAt l x) := by cases x; simp [smAt, eM]
def eP (s : PS) : PS := ⟨s.at_, s.deep, s.vars.map eV⟩
def eR (e : Er) : Er := ⟨e.e, 0, 0⟩
def eK (k : Kd) : Kd := ⟨eS k.at_, k.kind, k.arr, k.lo, k.hi⟩
def eG (p : Pg) : Pg := ⟨p.name, p.vars.map eV, p.body.map eM⟩
section
variable {α β : Type}
def emap (g : α → β) : PM α → PM β
  | .ok a s => .ok (g a) (eP s)
  | .bad e s => .bad (eR e) (eP s)
  | .out => .out
def PE (g : α → β) (r : PM α) (r' : PM β) : Prop := r' = emap g r
theorem PE.ok {g : α → β} {a : α} {a' : β} {s s' : PS} (h : a' = g a) (h' : s' = eP s) : PE g (.ok a s) (.ok a' s') := by subst h; subst h'; rfl
theorem PE.out {g : α → β} : PE g .out .out := rfl
theorem PE.bind {α' β' : Type} {g : α → α'} {g' : β → β'} {r : PM α} {r' : PM α'} {k : α → PS → PM β} {k' : α' → PS → PM β'} (h : PE g r r') (hk : ∀ a s, PE g' (k a s) (k' (g a) (eP s))) : PE g' (r.bind k) (r'.bind k') := by
  unfold PE at h
  subst h
  cases r with
  | ok a s => exact hk a s
  | bad e s => rfl
  | out => rfl
theorem PE.ite {g : α → β} {c c' : Prop} [Decidable c] [Decidable c'] {a b : PM α} {a' b' : PM β} (hc : c ↔ c') (h : PE g a a') (h' : PE g b b') : PE g (if c then a else b) (if c' then a' else b') := by
  by_cases hh : c
  · rw [if_pos hh, if_pos (hc.1 hh)]; exact h
  · rw [if_neg hh, if_neg (fun h => hh (hc.2 h))]; exact h'
end
section
variable (L : List Sgn)
theorem fail_e {α β : Type} {g : α → β} {e : Int} {t : Sgn} {s : PS} : PE g (failS e t s) (failS e (eS t) (eP s)) := rfl
theorem now_e (s : PS) : PE eS (nowS L s) (nowS (L.map eS) (eP s)) := by
  unfold nowS eP
  simp only [List.getElem?_map]
  cases L[s.at_]? with
  | none => rfl
  | some t => rfl
theorem is_e (w : Tx) (s : PS) : PE id (isS L w s) (isS (L.map eS) w (eP s)) := by
  unfold isS
  exact PE.bind (now_e L s) fun t s => rfl
theorem any_e : ∀ (ws : List Tx) (s : PS), PE id (anyS L ws s) (anyS (L.map eS) ws (eP s))
  | [], s => rfl
  | w :: r, s => by
    unfold anyS
    exact PE.bind (is_e L w s) fun b s => PE.ite Iff.rfl rfl (any_e r s)
theorem take_e (s : PS) : PE eS (takeS L s) (takeS (L.map eS) (eP s)) := by
  unfold takeS
  refine PE.bind (now_e L s) fun t s => PE.ok rfl ?_
  by_cases h : t.kind = 0
  · rw [if_pos h, if_pos (show (eS t).kind = 0 from h)]
  · rw [if_neg h, if_neg (show ¬ (eS t).kind = 0 from h)]; rfl
theorem may_e (w : Tx) (s : PS) : PE id (mayS L w s) (mayS (L.map eS) w (eP s)) := by
  unfold mayS
  repeat' (first | with_reducible (first | exact now_e L _ | exact is_e L _ _ | exact any_e L _ _ | exact take_e L _ | exact fail_e | exact PE.out | apply PE.bind | refine PE.ite ?_ ?_ ?_ | intro _ _) | exact Iff.rfl | exact PE.ok rfl rfl | exact PE.ok (smAt_e _ _) rfl | exact PE.ok (by simp [eP, eS, eK, eV, eE, eEs, eEs_eq, eM, eMs, eMs_eq, eBs_eq, vrOf, exSub, exVar, ex0, smOp, smAt, Function.comp_def, List.map_append]) rfl | exact PE.ok (by simp [eP, eS, eK, eV, eE, eEs, eEs_eq, eM, eMs, eMs_eq, eBs_eq, vrOf, exSub, exVar, ex0, smOp, smAt, Function.comp_def, List.map_append]) (by simp [eP, eS, eK, eV, eE, eEs, eEs_eq, eM, eMs, eMs_eq, eBs_eq, vrOf, exSub, exVar, ex0, smOp, smAt, Function.comp_def, List.map_append]) | (simp [eP, eS, eK, eV, eE, eEs, eEs_eq, eM, eMs, eMs_eq, eBs_eq, vrOf, exSub, exVar, ex0, smOp, smAt, Function.comp_def, List.map_append]; done) | exact fail_e)
theorem must_e (w : Tx) (s : PS) : PE id (mustS L w s) (mustS (L.map eS) w (eP s)) := by
  unfold mustS
  repeat' (first | with_reducible (first | exact now_e L _ | exact is_e L _ _ | exact any_e L _ _ | exact take_e L _ | exact may_e L _ _  | exact fail_e | exact PE.out | apply PE.bind | refine PE.ite ?_ ?_ ?_ | intro _ _) | exact Iff.rfl | exact PE.ok rfl rfl | exact PE.ok (smAt_e _ _) rfl | exact PE.ok (by simp [eP, eS, eK, eV, eE, eEs, eEs_eq, eM, eMs, eMs_eq, eBs_eq, vrOf, exSub, exVar, ex0, smOp, smAt, Function.comp_def, List.map_append]) rfl | exact PE.ok (by simp [eP, eS, eK, eV, eE, eEs, eEs_eq, eM, eMs, eMs_eq, eBs_eq, vrOf, exSub, exVar, ex0, smOp, smAt, Function.comp_def, List.map_append]) (by simp [eP, eS, eK, eV, eE, eEs, eEs_eq, eM, eMs, eMs_eq, eBs_eq, vrOf, exSub, exVar, ex0, smOp, smAt, Function.comp_def, List.map_append]) | (simp [eP, eS, eK, eV, eE, eEs, eEs_eq, eM, eMs, eMs_eq, eBs_eq, vrOf, exSub, exVar, ex0, smOp, smAt, Function.comp_def, List.map_append]; done) | exact may_e L _ _  | exact fail_e)
theorem kind_e (k : Int) (s : PS) : PE eS (kindS L k s) (kindS (L.map eS) k (eP s)) := by
  unfold kindS
  repeat' (first | with_reducible (first | exact now_e L _ | exact is_e L _ _ | exact any_e L _ _ | exact take_e L _ | exact may_e L _ _  | exact must_e L _ _  | exact fail_e | exact PE.out | apply PE.bind | refine PE.ite ?_ ?_ ?_ | intro _ _) | exact Iff.rfl | exact PE.ok rfl rfl | exact PE.ok (smAt_e _ _) rfl | exact PE.ok (by simp [eP, eS, eK, eV, eE, eEs, eEs_eq, eM, eMs, eMs_eq, eBs_eq, vrOf, exSub, exVar, ex0, smOp, smAt, Function.comp_def, List.map_append]) rfl | exact PE.ok (by simp [eP, eS, eK, eV, eE, eEs, eEs_eq, eM, eMs, eMs_eq, eBs_eq, vrOf, exSub, exVar, ex0, smOp, smAt, Function.comp_def, List.map_append]) (by simp [eP, eS, eK, eV, eE, eEs, eEs_eq, eM, eMs, eMs_eq, eBs_eq, vrOf, exSub, exVar, ex0, smOp, smAt, Function.comp_def, List.map_append]) | (simp [eP, eS, eK, eV, eE, eEs, eEs_eq, eM, eMs, eMs_eq, eBs_eq, vrOf, exSub, exVar, ex0, smOp, smAt, Function.comp_def, List.map_append]; done) | exact may_e L _ _  | exact must_e L _ _  | exact fail_e)
theorem in_e (s : PS) : PE id (inS L s) (inS (L.map eS) (eP s)) := by
  unfold inS
  exact PE.ite Iff.rfl (PE.bind (now_e L { s with deep := wr (s.deep + 1) }) fun _ _ => fail_e) rfl
theorem out_e (s : PS) : PE id (outS s) (outS (eP s)) := rfl
theorem plain_e (s : PS) : PE id (plainS L s) (plainS (L.map eS) (eP s)) := by
  unfold plainS
  repeat' (first | with_reducible (first | exact now_e L _ | exact is_e L _ _ | exact any_e L _ _ | exact take_e L _ | exact may_e L _ _  | exact must_e L _ _  | exact kind_e L _ _  | exact in_e L _ | exact out_e _ | exact fail_e | exact PE.out | apply PE.bind | refine PE.ite ?_ ?_ ?_ | intro _ _) | exact Iff.rfl | exact PE.ok rfl rfl | exact PE.ok (smAt_e _ _) rfl | exact PE.ok (by simp [eP, eS, eK, eV, eE, eEs, eEs_eq, eM, eMs, eMs_eq, eBs_eq, vrOf, exSub, exVar, ex0, smOp, smAt, Function.comp_def, List.map_append]) rfl | exact PE.ok (by simp [eP, eS, eK, eV, eE, eEs, eEs_eq, eM, eMs, eMs_eq, eBs_eq, vrOf, exSub, exVar, ex0, smOp, smAt, Function.comp_def, List.map_append]) (by simp [eP, eS, eK, eV, eE, eEs, eEs_eq, eM, eMs, eMs_eq, eBs_eq, vrOf, exSub, exVar, ex0, smOp, smAt, Function.comp_def, List.map_append]) | (simp [eP, eS, eK, eV, eE, eEs, eEs_eq, eM, eMs, eMs_eq, eBs_eq, vrOf, exSub, exVar, ex0, smOp, smAt, Function.comp_def, List.map_append]; done) | exact may_e L _ _  | exact must_e L _ _  | exact kind_e L _ _  | exact in_e L _ | exact out_e _ | exact fail_e)
theorem array_e (k : Kd) (s : PS) : PE eK (arrayS L k s) (arrayS (L.map eS) (eK k) (eP s)) := by
  unfold arrayS
  repeat' (first | with_reducible (first | exact now_e L _ | exact is_e L _ _ | exact any_e L _ _ | exact take_e L _ | exact may_e L _ _  | exact must_e L _ _  | exact kind_e L _ _  | exact in_e L _ | exact out_e _ | exact plain_e L _  | exact fail_e | exact PE.out | apply PE.bind | refine PE.ite ?_ ?_ ?_ | intro _ _) | exact Iff.rfl | exact PE.ok rfl rfl | exact PE.ok (smAt_e _ _) rfl | exact PE.ok (by simp [eP, eS, eK, eV, eE, eEs, eEs_eq, eM, eMs, eMs_eq, eBs_eq, vrOf, exSub, exVar, ex0, smOp, smAt, Function.comp_def, List.map_append]) rfl | exact PE.ok (by simp [eP, eS, eK, eV, eE, eEs, eEs_eq, eM, eMs, eMs_eq, eBs_eq, vrOf, exSub, exVar, ex0, smOp, smAt, Function.comp_def, List.map_append]) (by simp [eP, eS, eK, eV, eE, eEs, eEs_eq, eM, eMs, eMs_eq, eBs_eq, vrOf, exSub, exVar, ex0, smOp, smAt, Function.comp_def, List.map_append]) | (simp [eP, eS, eK, eV, eE, eEs, eEs_eq, eM, eMs, eMs_eq, eBs_eq, vrOf, exSub, exVar, ex0, smOp, smAt, Function.comp_def, List.map_append]; done) | exact may_e L _ _  | exact must_e L _ _  | exact kind_e L _ _  | exact in_e L _ | exact out_e _ | exact plain_e L _  | exact fail_e)
theorem typed_e (kn : Tx → Int) (s : PS) : PE eK (typedS L kn s) (typedS (L.map eS) kn (eP s)) := by
  unfold typedS
  repeat' (first | with_reducible (first | exact now_e L _ | exact is_e L _ _ | exact any_e L _ _ | exact take_e L _ | exact may_e L _ _  | exact must_e L _ _  | exact kind_e L _ _  | exact in_e L _ | exact out_e _ | exact plain_e L _  | exact array_e L _ _  | exact fail_e | exact PE.out | apply PE.bind | refine PE.ite ?_ ?_ ?_ | intro _ _) | exact Iff.rfl | exact PE.ok rfl rfl | exact PE.ok (smAt_e _ _) rfl | exact PE.ok (by simp [eP, eS, eK, eV, eE, eEs, eEs_eq, eM, eMs, eMs_eq, eBs_eq, vrOf, exSub, exVar, ex0, smOp, smAt, Function.comp_def, List.map_append]) rfl | exact PE.ok (by simp [eP, eS, eK, eV, eE, eEs, eEs_eq, eM, eMs, eMs_eq, eBs_eq, vrOf, exSub, exVar, ex0, smOp, smAt, Function.comp_def, List.map_append]) (by simp [eP, eS, eK, eV, eE, eEs, eEs_eq, eM, eMs, eMs_eq, eBs_eq, vrOf, exSub, exVar, ex0, smOp, smAt, Function.comp_def, List.map_append]) | (simp [eP, eS, eK, eV, eE, eEs, eEs_eq, eM, eMs, eMs_eq, eBs_eq, vrOf, exSub, exVar, ex0, smOp, smAt, Function.comp_def, List.map_append]; done) | exact may_e L _ _  | exact must_e L _ _  | exact kind_e L _ _  | exact in_e L _ | exact out_e _ | exact plain_e L _  | exact array_e L _ _  | exact fail_e)
theorem signed_e (s : PS) : PE id (signedS L s) (signedS (L.map eS) (eP s)) := by
  unfold signedS
  repeat' (first | with_reducible (first | exact now_e L _ | exact is_e L _ _ | exact any_e L _ _ | exact take_e L _ | exact may_e L _ _  | exact must_e L _ _  | exact kind_e L _ _  | exact in_e L _ | exact out_e _ | exact plain_e L _  | exact array_e L _ _  | exact typed_e L _ _  | exact fail_e | exact PE.out | apply PE.bind | refine PE.ite ?_ ?_ ?_ | intro _ _) | exact Iff.rfl | exact PE.ok rfl rfl | exact PE.ok (smAt_e _ _) rfl | exact PE.ok (by simp [eP, eS, eK, eV, eE, eEs, eEs_eq, eM, eMs, eMs_eq, eBs_eq, vrOf, exSub, exVar, ex0, smOp, smAt, Function.comp_def, List.map_append]) rfl | exact PE.ok (by simp [eP, eS, eK, eV, eE, eEs, eEs_eq, eM, eMs, eMs_eq, eBs_eq, vrOf, exSub, exVar, ex0, smOp, smAt, Function.comp_def, List.map_append]) (by simp [eP, eS, eK, eV, eE, eEs, eEs_eq, eM, eMs, eMs_eq, eBs_eq, vrOf, exSub, exVar, ex0, smOp, smAt, Function.comp_def, List.map_append]) | (simp [eP, eS, eK, eV, eE, eEs, eEs_eq, eM, eMs, eMs_eq, eBs_eq, vrOf, exSub, exVar, ex0, smOp, smAt, Function.comp_def, List.map_append]; done) | exact may_e L _ _  | exact must_e L _ _  | exact kind_e L _ _  | exact in_e L _ | exact out_e _ | exact plain_e L _  | exact array_e L _ _  | exact typed_e L _ _  | exact fail_e)
theorem value_e (s : PS) : PE id (valueS L s) (valueS (L.map eS) (eP s)) := by
  unfold valueS
  repeat' (first | with_reducible (first | exact now_e L _ | exact is_e L _ _ | exact any_e L _ _ | exact take_e L _ | exact may_e L _ _  | exact must_e L _ _  | exact kind_e L _ _  | exact in_e L _ | exact out_e _ | exact plain_e L _  | exact array_e L _ _  | exact typed_e L _ _  | exact signed_e L _  | exact fail_e | exact PE.out | apply PE.bind | refine PE.ite ?_ ?_ ?_ | intro _ _) | exact Iff.rfl | exact PE.ok rfl rfl | exact PE.ok (smAt_e _ _) rfl | exact PE.ok (by simp [eP, eS, eK, eV, eE, eEs, eEs_eq, eM, eMs, eMs_eq, eBs_eq, vrOf, exSub, exVar, ex0, smOp, smAt, Function.comp_def, List.map_append]) rfl | exact PE.ok (by simp [eP, eS, eK, eV, eE, eEs, eEs_eq, eM, eMs, eMs_eq, eBs_eq, vrOf, exSub, exVar, ex0, smOp, smAt, Function.comp_def, List.map_append]) (by simp [eP, eS, eK, eV, eE, eEs, eEs_eq, eM, eMs, eMs_eq, eBs_eq, vrOf, exSub, exVar, ex0, smOp, smAt, Function.comp_def, List.map_append]) | (simp [eP, eS, eK, eV, eE, eEs, eEs_eq, eM, eMs, eMs_eq, eBs_eq, vrOf, exSub, exVar, ex0, smOp, smAt, Function.comp_def, List.map_append]; done) | exact may_e L _ _  | exact must_e L _ _  | exact kind_e L _ _  | exact in_e L _ | exact out_e _ | exact plain_e L _  | exact array_e L _ _  | exact typed_e L _ _  | exact signed_e L _  | exact fail_e)
theorem names_e : ∀ (f : Nat) (l : List Sgn) (s : PS), PE (List.map eS) (namesS L f l s) (namesS (L.map eS) f (l.map eS) (eP s))
  | 0, l, s => rfl
  | f + 1, l, s => by
    have ih := fun t s => names_e f (l ++ [t]) s
    simp only [List.map_append, List.map_cons, List.map_nil] at ih
    unfold namesS
    repeat' (first | with_reducible (first | exact now_e L _ | exact is_e L _ _ | exact any_e L _ _ | exact take_e L _ | exact may_e L _ _  | exact must_e L _ _  | exact kind_e L _ _  | exact in_e L _ | exact out_e _ | exact plain_e L _  | exact array_e L _ _  | exact typed_e L _ _  | exact signed_e L _  | exact value_e L _  | exact ih _ _ | exact fail_e | exact PE.out | apply PE.bind | refine PE.ite ?_ ?_ ?_ | intro _ _) | exact Iff.rfl | exact PE.ok rfl rfl | exact PE.ok (smAt_e _ _) rfl | exact PE.ok (by simp [eP, eS, eK, eV, eE, eEs, eEs_eq, eM, eMs, eMs_eq, eBs_eq, vrOf, exSub, exVar, ex0, smOp, smAt, Function.comp_def, List.map_append]) rfl | exact PE.ok (by simp [eP, eS, eK, eV, eE, eEs, eEs_eq, eM, eMs, eMs_eq, eBs_eq, vrOf, exSub, exVar, ex0, smOp, smAt, Function.comp_def, List.map_append]) (by simp [eP, eS, eK, eV, eE, eEs, eEs_eq, eM, eMs, eMs_eq, eBs_eq, vrOf, exSub, exVar, ex0, smOp, smAt, Function.comp_def, List.map_append]) | (simp [eP, eS, eK, eV, eE, eEs, eEs_eq, eM, eMs, eMs_eq, eBs_eq, vrOf, exSub, exVar, ex0, smOp, smAt, Function.comp_def, List.map_append]; done) | exact may_e L _ _  | exact must_e L _ _  | exact kind_e L _ _  | exact in_e L _ | exact out_e _ | exact plain_e L _  | exact array_e L _ _  | exact typed_e L _ _  | exact signed_e L _  | exact value_e L _  | exact ih _ _ | exact fail_e)
theorem init_e (k : Kd) (s : PS) : PE id (initS L k s) (initS (L.map eS) (eK k) (eP s)) := by
  unfold initS
  repeat' (first | with_reducible (first | exact now_e L _ | exact is_e L _ _ | exact any_e L _ _ | exact take_e L _ | exact may_e L _ _  | exact must_e L _ _  | exact kind_e L _ _  | exact in_e L _ | exact out_e _ | exact plain_e L _  | exact array_e L _ _  | exact typed_e L _ _  | exact signed_e L _  | exact value_e L _  | exact names_e L _ _ _ | exact fail_e | exact PE.out | apply PE.bind | refine PE.ite ?_ ?_ ?_ | intro _ _) | exact Iff.rfl | exact PE.ok rfl rfl | exact PE.ok (smAt_e _ _) rfl | exact PE.ok (by simp [eP, eS, eK, eV, eE, eEs, eEs_eq, eM, eMs, eMs_eq, eBs_eq, vrOf, exSub, exVar, ex0, smOp, smAt, Function.comp_def, List.map_append]) rfl | exact PE.ok (by simp [eP, eS, eK, eV, eE, eEs, eEs_eq, eM, eMs, eMs_eq, eBs_eq, vrOf, exSub, exVar, ex0, smOp, smAt, Function.comp_def, List.map_append]) (by simp [eP, eS, eK, eV, eE, eEs, eEs_eq, eM, eMs, eMs_eq, eBs_eq, vrOf, exSub, exVar, ex0, smOp, smAt, Function.comp_def, List.map_append]) | (simp [eP, eS, eK, eV, eE, eEs, eEs_eq, eM, eMs, eMs_eq, eBs_eq, vrOf, exSub, exVar, ex0, smOp, smAt, Function.comp_def, List.map_append]; done) | exact may_e L _ _  | exact must_e L _ _  | exact kind_e L _ _  | exact in_e L _ | exact out_e _ | exact plain_e L _  | exact array_e L _ _  | exact typed_e L _ _  | exact signed_e L _  | exact value_e L _  | exact names_e L _ _ _ | exact fail_e)
theorem declared_e (kn : Tx → Int) (f : Nat) (sec : Int) (s : PS) : PE id (declaredS L kn f sec s) (declaredS (L.map eS) kn f sec (eP s)) := by
  unfold declaredS
  refine PE.bind (names_e L f [] s) fun l s => PE.bind (must_e L _ _) fun _ s => PE.bind (typed_e L _ _) fun k s => PE.bind (init_e L _ _) fun n s => PE.bind (must_e L _ _) fun _ s => ?_
  refine PE.ite (by simp [eP]) (PE.ok rfl ?_) rfl
  simp [eP, eK, eS, eV, vrOf, Function.comp_def]
theorem lines_e (kn : Tx → Int) (sec : Int) : ∀ (f : Nat) (s : PS), PE id (linesS L kn sec f s) (linesS (L.map eS) kn sec f (eP s))
  | 0, s => rfl
  | f + 1, s => by
    have ih := fun s => lines_e kn sec f s
    unfold linesS
    repeat' (first | with_reducible (first | exact now_e L _ | exact is_e L _ _ | exact any_e L _ _ | exact take_e L _ | exact may_e L _ _  | exact must_e L _ _  | exact kind_e L _ _  | exact in_e L _ | exact out_e _ | exact plain_e L _  | exact array_e L _ _  | exact typed_e L _ _  | exact signed_e L _  | exact value_e L _  | exact names_e L _ _ _ | exact init_e L _ _  | exact declared_e L _ _ _ _ | exact ih _ | exact fail_e | exact PE.out | apply PE.bind | refine PE.ite ?_ ?_ ?_ | intro _ _) | exact Iff.rfl | exact PE.ok rfl rfl | exact PE.ok (smAt_e _ _) rfl | exact PE.ok (by simp [eP, eS, eK, eV, eE, eEs, eEs_eq, eM, eMs, eMs_eq, eBs_eq, vrOf, exSub, exVar, ex0, smOp, smAt, Function.comp_def, List.map_append]) rfl | exact PE.ok (by simp [eP, eS, eK, eV, eE, eEs, eEs_eq, eM, eMs, eMs_eq, eBs_eq, vrOf, exSub, exVar, ex0, smOp, smAt, Function.comp_def, List.map_append]) (by simp [eP, eS, eK, eV, eE, eEs, eEs_eq, eM, eMs, eMs_eq, eBs_eq, vrOf, exSub, exVar, ex0, smOp, smAt, Function.comp_def, List.map_append]) | (simp [eP, eS, eK, eV, eE, eEs, eEs_eq, eM, eMs, eMs_eq, eBs_eq, vrOf, exSub, exVar, ex0, smOp, smAt, Function.comp_def, List.map_append]; done) | exact may_e L _ _  | exact must_e L _ _  | exact kind_e L _ _  | exact in_e L _ | exact out_e _ | exact plain_e L _  | exact array_e L _ _  | exact typed_e L _ _  | exact signed_e L _  | exact value_e L _  | exact names_e L _ _ _ | exact init_e L _ _  | exact declared_e L _ _ _ _ | exact ih _ | exact fail_e)
theorem section_e (s : PS) : PE id (sectionS L s) (sectionS (L.map eS) (eP s)) := by
  unfold sectionS
  repeat' (first | with_reducible (first | exact now_e L _ | exact is_e L _ _ | exact any_e L _ _ | exact take_e L _ | exact may_e L _ _  | exact must_e L _ _  | exact kind_e L _ _  | exact in_e L _ | exact out_e _ | exact plain_e L _  | exact array_e L _ _  | exact typed_e L _ _  | exact signed_e L _  | exact value_e L _  | exact names_e L _ _ _ | exact init_e L _ _  | exact declared_e L _ _ _ _ | exact lines_e L _ _ _ _ | exact fail_e | exact PE.out | apply PE.bind | refine PE.ite ?_ ?_ ?_ | intro _ _) | exact Iff.rfl | exact PE.ok rfl rfl | exact PE.ok (smAt_e _ _) rfl | exact PE.ok (by simp [eP, eS, eK, eV, eE, eEs, eEs_eq, eM, eMs, eMs_eq, eBs_eq, vrOf, exSub, exVar, ex0, smOp, smAt, Function.comp_def, List.map_append]) rfl | exact PE.ok (by simp [eP, eS, eK, eV, eE, eEs, eEs_eq, eM, eMs, eMs_eq, eBs_eq, vrOf, exSub, exVar, ex0, smOp, smAt, Function.comp_def, List.map_append]) (by simp [eP, eS, eK, eV, eE, eEs, eEs_eq, eM, eMs, eMs_eq, eBs_eq, vrOf, exSub, exVar, ex0, smOp, smAt, Function.comp_def, List.map_append]) | (simp [eP, eS, eK, eV, eE, eEs, eEs_eq, eM, eMs, eMs_eq, eBs_eq, vrOf, exSub, exVar, ex0, smOp, smAt, Function.comp_def, List.map_append]; done) | exact may_e L _ _  | exact must_e L _ _  | exact kind_e L _ _  | exact in_e L _ | exact out_e _ | exact plain_e L _  | exact array_e L _ _  | exact typed_e L _ _  | exact signed_e L _  | exact value_e L _  | exact names_e L _ _ _ | exact init_e L _ _  | exact declared_e L _ _ _ _ | exact lines_e L _ _ _ _ | exact fail_e)
theorem sections_e (kn : Tx → Int) : ∀ (f : Nat) (s : PS), PE id (sectionsS L kn f s) (sectionsS (L.map eS) kn f (eP s))
  | 0, s => rfl
  | f + 1, s => by
    have ih := fun s => sections_e kn f s
    unfold sectionsS
    refine PE.bind (section_e L s) fun o s => ?_
    cases o with
    | none => rfl
    | some sec => exact PE.bind (lines_e L kn sec f s) fun _ s => ih s
theorem labelled_e (s : PS) : PE id (labelledS L s) (labelledS (L.map eS) (eP s)) := by
  unfold labelledS
  repeat' (first | with_reducible (first | exact now_e L _ | exact is_e L _ _ | exact any_e L _ _ | exact take_e L _ | exact may_e L _ _  | exact must_e L _ _  | exact kind_e L _ _  | exact in_e L _ | exact out_e _ | exact plain_e L _  | exact array_e L _ _  | exact typed_e L _ _  | exact signed_e L _  | exact value_e L _  | exact names_e L _ _ _ | exact init_e L _ _  | exact declared_e L _ _ _ _ | exact lines_e L _ _ _ _ | exact section_e L _  | exact sections_e L _ _ _ | exact fail_e | exact PE.out | apply PE.bind | refine PE.ite ?_ ?_ ?_ | intro _ _) | exact Iff.rfl | exact PE.ok rfl rfl | exact PE.ok (smAt_e _ _) rfl | exact PE.ok (by simp [eP, eS, eK, eV, eE, eEs, eEs_eq, eM, eMs, eMs_eq, eBs_eq, vrOf, exSub, exVar, ex0, smOp, smAt, Function.comp_def, List.map_append]) rfl | exact PE.ok (by simp [eP, eS, eK, eV, eE, eEs, eEs_eq, eM, eMs, eMs_eq, eBs_eq, vrOf, exSub, exVar, ex0, smOp, smAt, Function.comp_def, List.map_append]) (by simp [eP, eS, eK, eV, eE, eEs, eEs_eq, eM, eMs, eMs_eq, eBs_eq, vrOf, exSub, exVar, ex0, smOp, smAt, Function.comp_def, List.map_append]) | (simp [eP, eS, eK, eV, eE, eEs, eEs_eq, eM, eMs, eMs_eq, eBs_eq, vrOf, exSub, exVar, ex0, smOp, smAt, Function.comp_def, List.map_append]; done) | exact may_e L _ _  | exact must_e L _ _  | exact kind_e L _ _  | exact in_e L _ | exact out_e _ | exact plain_e L _  | exact array_e L _ _  | exact typed_e L _ _  | exact signed_e L _  | exact value_e L _  | exact names_e L _ _ _ | exact init_e L _ _  | exact declared_e L _ _ _ _ | exact lines_e L _ _ _ _ | exact section_e L _  | exact sections_e L _ _ _ | exact fail_e)
theorem labels_e : ∀ (f : Nat) (l : List Int) (s : PS), PE id (labelsS L f l s) (labelsS (L.map eS) f l (eP s))
  | 0, l, s => rfl
  | f + 1, l, s => by
    have ih := fun l s => labels_e f l s
    unfold labelsS
    refine PE.bind (signed_e L _) fun lo s => PE.bind (may_e L _ _) fun b s => PE.bind (g := id) (PE.ite Iff.rfl (signed_e L _) rfl) fun hi s => PE.ite Iff.rfl (PE.bind (may_e L _ _) fun b s => PE.ite Iff.rfl (ih _ _) (PE.bind (must_e L _ _) fun _ s => PE.ok rfl rfl)) rfl
theorem endCase_e (s : PS) : PE id (endCaseS L s) (endCaseS (L.map eS) (eP s)) := by
  unfold endCaseS
  repeat' (first | with_reducible (first | exact now_e L _ | exact is_e L _ _ | exact any_e L _ _ | exact take_e L _ | exact may_e L _ _  | exact must_e L _ _  | exact kind_e L _ _  | exact in_e L _ | exact out_e _ | exact plain_e L _  | exact array_e L _ _  | exact typed_e L _ _  | exact signed_e L _  | exact value_e L _  | exact names_e L _ _ _ | exact init_e L _ _  | exact declared_e L _ _ _ _ | exact lines_e L _ _ _ _ | exact section_e L _  | exact sections_e L _ _ _ | exact labelled_e L _  | exact labels_e L _ _ _ | exact fail_e | exact PE.out | apply PE.bind | refine PE.ite ?_ ?_ ?_ | intro _ _) | exact Iff.rfl | exact PE.ok rfl rfl | exact PE.ok (smAt_e _ _) rfl | exact PE.ok (by simp [eP, eS, eK, eV, eE, eEs, eEs_eq, eM, eMs, eMs_eq, eBs_eq, vrOf, exSub, exVar, ex0, smOp, smAt, Function.comp_def, List.map_append]) rfl | exact PE.ok (by simp [eP, eS, eK, eV, eE, eEs, eEs_eq, eM, eMs, eMs_eq, eBs_eq, vrOf, exSub, exVar, ex0, smOp, smAt, Function.comp_def, List.map_append]) (by simp [eP, eS, eK, eV, eE, eEs, eEs_eq, eM, eMs, eMs_eq, eBs_eq, vrOf, exSub, exVar, ex0, smOp, smAt, Function.comp_def, List.map_append]) | (simp [eP, eS, eK, eV, eE, eEs, eEs_eq, eM, eMs, eMs_eq, eBs_eq, vrOf, exSub, exVar, ex0, smOp, smAt, Function.comp_def, List.map_append]; done) | exact may_e L _ _  | exact must_e L _ _  | exact kind_e L _ _  | exact in_e L _ | exact out_e _ | exact plain_e L _  | exact array_e L _ _  | exact typed_e L _ _  | exact signed_e L _  | exact value_e L _  | exact names_e L _ _ _ | exact init_e L _ _  | exact declared_e L _ _ _ _ | exact lines_e L _ _ _ _ | exact section_e L _  | exact sections_e L _ _ _ | exact labelled_e L _  | exact labels_e L _ _ _ | exact fail_e)
structure ErE (f : Nat) : Prop where
  level : ∀ n s, PE eE (Go.Am.levelS L f n s) (Go.Am.levelS (L.map eS) f n (eP s))
  loop : ∀ n x s, PE eE (Go.Am.levelL L f n x s) (Go.Am.levelL (L.map eS) f n (eE x) (eP s))
  unary : ∀  s, PE eE (Go.Am.unaryS L f  s) (Go.Am.unaryS (L.map eS) f  (eP s))
  unop : ∀ op t s, PE eE (Go.Am.unopS L f op t s) (Go.Am.unopS (L.map eS) f op (eS t) (eP s))
  expr : ∀  s, PE eE (Go.Am.exprS L f  s) (Go.Am.exprS (L.map eS) f  (eP s))
  index : ∀  s, PE eE (Go.Am.indexS L f  s) (Go.Am.indexS (L.map eS) f  (eP s))
  factor : ∀  s, PE eE (Go.Am.factorS L f  s) (Go.Am.factorS (L.map eS) f  (eP s))
theorem erE : ∀ f, ErE L f
  | 0 => ⟨fun _ _ => rfl, fun _ _ _ => rfl, fun _ => rfl, fun _ _ _ => rfl, fun _ => rfl, fun _ => rfl, fun _ => rfl⟩
  | f + 1 => by
    have ih := erE f
    have i0 := ih.level
    have i1 := ih.loop
    have i2 := ih.unary
    have i3 := ih.unop
    have i4 := ih.expr
    have i5 := ih.index
    have i6 := ih.factor
    have a_loop := fun (n : Nat) (op : Int) (nm : Tx) (x y : Ex) (ln : Int) (s : PS) => ih.loop n (exSub op nm [x, y] ln) s
    simp only [exSub, eE, eEs] at a_loop
    refine ⟨?_, ?_, ?_, ?_, ?_, ?_, ?_⟩ <;> intros
    · unfold Go.Am.levelS
      repeat' (first | with_reducible (first | exact now_e L _ | exact is_e L _ _ | exact any_e L _ _ | exact take_e L _ | exact may_e L _ _  | exact must_e L _ _  | exact kind_e L _ _  | exact in_e L _ | exact out_e _ | exact plain_e L _  | exact array_e L _ _  | exact typed_e L _ _  | exact signed_e L _  | exact value_e L _  | exact names_e L _ _ _ | exact init_e L _ _  | exact declared_e L _ _ _ _ | exact lines_e L _ _ _ _ | exact section_e L _  | exact sections_e L _ _ _ | exact labelled_e L _  | exact labels_e L _ _ _ | exact endCase_e L _  | exact i0 _ _  | exact i1 _ _ _  | exact i2 _  | exact i3 _ _ _  | exact i4 _  | exact i5 _  | exact i6 _  | exact a_loop _ _ _ _ _ _ _ | exact fail_e | exact PE.out | apply PE.bind | refine PE.ite ?_ ?_ ?_ | intro _ _) | exact Iff.rfl | exact PE.ok rfl rfl | exact PE.ok (smAt_e _ _) rfl | exact PE.ok (by simp [eP, eS, eK, eV, eE, eEs, eEs_eq, eM, eMs, eMs_eq, eBs_eq, vrOf, exSub, exVar, ex0, smOp, smAt, Function.comp_def, List.map_append]) rfl | exact PE.ok (by simp [eP, eS, eK, eV, eE, eEs, eEs_eq, eM, eMs, eMs_eq, eBs_eq, vrOf, exSub, exVar, ex0, smOp, smAt, Function.comp_def, List.map_append]) (by simp [eP, eS, eK, eV, eE, eEs, eEs_eq, eM, eMs, eMs_eq, eBs_eq, vrOf, exSub, exVar, ex0, smOp, smAt, Function.comp_def, List.map_append]) | (simp [eP, eS, eK, eV, eE, eEs, eEs_eq, eM, eMs, eMs_eq, eBs_eq, vrOf, exSub, exVar, ex0, smOp, smAt, Function.comp_def, List.map_append]; done) | exact may_e L _ _  | exact must_e L _ _  | exact kind_e L _ _  | exact in_e L _ | exact out_e _ | exact plain_e L _  | exact array_e L _ _  | exact typed_e L _ _  | exact signed_e L _  | exact value_e L _  | exact names_e L _ _ _ | exact init_e L _ _  | exact declared_e L _ _ _ _ | exact lines_e L _ _ _ _ | exact section_e L _  | exact sections_e L _ _ _ | exact labelled_e L _  | exact labels_e L _ _ _ | exact endCase_e L _  | exact i0 _ _  | exact i1 _ _ _  | exact i2 _  | exact i3 _ _ _  | exact i4 _  | exact i5 _  | exact i6 _  | exact a_loop _ _ _ _ _ _ _ | exact fail_e)
    · unfold Go.Am.levelL
      repeat' (first | with_reducible (first | exact now_e L _ | exact is_e L _ _ | exact any_e L _ _ | exact take_e L _ | exact may_e L _ _  | exact must_e L _ _  | exact kind_e L _ _  | exact in_e L _ | exact out_e _ | exact plain_e L _  | exact array_e L _ _  | exact typed_e L _ _  | exact signed_e L _  | exact value_e L _  | exact names_e L _ _ _ | exact init_e L _ _  | exact declared_e L _ _ _ _ | exact lines_e L _ _ _ _ | exact section_e L _  | exact sections_e L _ _ _ | exact labelled_e L _  | exact labels_e L _ _ _ | exact endCase_e L _  | exact i0 _ _  | exact i1 _ _ _  | exact i2 _  | exact i3 _ _ _  | exact i4 _  | exact i5 _  | exact i6 _  | exact a_loop _ _ _ _ _ _ _ | exact fail_e | exact PE.out | apply PE.bind | refine PE.ite ?_ ?_ ?_ | intro _ _) | exact Iff.rfl | exact PE.ok rfl rfl | exact PE.ok (smAt_e _ _) rfl | exact PE.ok (by simp [eP, eS, eK, eV, eE, eEs, eEs_eq, eM, eMs, eMs_eq, eBs_eq, vrOf, exSub, exVar, ex0, smOp, smAt, Function.comp_def, List.map_append]) rfl | exact PE.ok (by simp [eP, eS, eK, eV, eE, eEs, eEs_eq, eM, eMs, eMs_eq, eBs_eq, vrOf, exSub, exVar, ex0, smOp, smAt, Function.comp_def, List.map_append]) (by simp [eP, eS, eK, eV, eE, eEs, eEs_eq, eM, eMs, eMs_eq, eBs_eq, vrOf, exSub, exVar, ex0, smOp, smAt, Function.comp_def, List.map_append]) | (simp [eP, eS, eK, eV, eE, eEs, eEs_eq, eM, eMs, eMs_eq, eBs_eq, vrOf, exSub, exVar, ex0, smOp, smAt, Function.comp_def, List.map_append]; done) | exact may_e L _ _  | exact must_e L _ _  | exact kind_e L _ _  | exact in_e L _ | exact out_e _ | exact plain_e L _  | exact array_e L _ _  | exact typed_e L _ _  | exact signed_e L _  | exact value_e L _  | exact names_e L _ _ _ | exact init_e L _ _  | exact declared_e L _ _ _ _ | exact lines_e L _ _ _ _ | exact section_e L _  | exact sections_e L _ _ _ | exact labelled_e L _  | exact labels_e L _ _ _ | exact endCase_e L _  | exact i0 _ _  | exact i1 _ _ _  | exact i2 _  | exact i3 _ _ _  | exact i4 _  | exact i5 _  | exact i6 _  | exact a_loop _ _ _ _ _ _ _ | exact fail_e)
    · unfold Go.Am.unaryS
      repeat' (first | with_reducible (first | exact now_e L _ | exact is_e L _ _ | exact any_e L _ _ | exact take_e L _ | exact may_e L _ _  | exact must_e L _ _  | exact kind_e L _ _  | exact in_e L _ | exact out_e _ | exact plain_e L _  | exact array_e L _ _  | exact typed_e L _ _  | exact signed_e L _  | exact value_e L _  | exact names_e L _ _ _ | exact init_e L _ _  | exact declared_e L _ _ _ _ | exact lines_e L _ _ _ _ | exact section_e L _  | exact sections_e L _ _ _ | exact labelled_e L _  | exact labels_e L _ _ _ | exact endCase_e L _  | exact i0 _ _  | exact i1 _ _ _  | exact i2 _  | exact i3 _ _ _  | exact i4 _  | exact i5 _  | exact i6 _  | exact a_loop _ _ _ _ _ _ _ | exact fail_e | exact PE.out | apply PE.bind | refine PE.ite ?_ ?_ ?_ | intro _ _) | exact Iff.rfl | exact PE.ok rfl rfl | exact PE.ok (smAt_e _ _) rfl | exact PE.ok (by simp [eP, eS, eK, eV, eE, eEs, eEs_eq, eM, eMs, eMs_eq, eBs_eq, vrOf, exSub, exVar, ex0, smOp, smAt, Function.comp_def, List.map_append]) rfl | exact PE.ok (by simp [eP, eS, eK, eV, eE, eEs, eEs_eq, eM, eMs, eMs_eq, eBs_eq, vrOf, exSub, exVar, ex0, smOp, smAt, Function.comp_def, List.map_append]) (by simp [eP, eS, eK, eV, eE, eEs, eEs_eq, eM, eMs, eMs_eq, eBs_eq, vrOf, exSub, exVar, ex0, smOp, smAt, Function.comp_def, List.map_append]) | (simp [eP, eS, eK, eV, eE, eEs, eEs_eq, eM, eMs, eMs_eq, eBs_eq, vrOf, exSub, exVar, ex0, smOp, smAt, Function.comp_def, List.map_append]; done) | exact may_e L _ _  | exact must_e L _ _  | exact kind_e L _ _  | exact in_e L _ | exact out_e _ | exact plain_e L _  | exact array_e L _ _  | exact typed_e L _ _  | exact signed_e L _  | exact value_e L _  | exact names_e L _ _ _ | exact init_e L _ _  | exact declared_e L _ _ _ _ | exact lines_e L _ _ _ _ | exact section_e L _  | exact sections_e L _ _ _ | exact labelled_e L _  | exact labels_e L _ _ _ | exact endCase_e L _  | exact i0 _ _  | exact i1 _ _ _  | exact i2 _  | exact i3 _ _ _  | exact i4 _  | exact i5 _  | exact i6 _  | exact a_loop _ _ _ _ _ _ _ | exact fail_e)
    · unfold Go.Am.unopS
      repeat' (first | with_reducible (first | exact now_e L _ | exact is_e L _ _ | exact any_e L _ _ | exact take_e L _ | exact may_e L _ _  | exact must_e L _ _  | exact kind_e L _ _  | exact in_e L _ | exact out_e _ | exact plain_e L _  | exact array_e L _ _  | exact typed_e L _ _  | exact signed_e L _  | exact value_e L _  | exact names_e L _ _ _ | exact init_e L _ _  | exact declared_e L _ _ _ _ | exact lines_e L _ _ _ _ | exact section_e L _  | exact sections_e L _ _ _ | exact labelled_e L _  | exact labels_e L _ _ _ | exact endCase_e L _  | exact i0 _ _  | exact i1 _ _ _  | exact i2 _  | exact i3 _ _ _  | exact i4 _  | exact i5 _  | exact i6 _  | exact a_loop _ _ _ _ _ _ _ | exact fail_e | exact PE.out | apply PE.bind | refine PE.ite ?_ ?_ ?_ | intro _ _) | exact Iff.rfl | exact PE.ok rfl rfl | exact PE.ok (smAt_e _ _) rfl | exact PE.ok (by simp [eP, eS, eK, eV, eE, eEs, eEs_eq, eM, eMs, eMs_eq, eBs_eq, vrOf, exSub, exVar, ex0, smOp, smAt, Function.comp_def, List.map_append]) rfl | exact PE.ok (by simp [eP, eS, eK, eV, eE, eEs, eEs_eq, eM, eMs, eMs_eq, eBs_eq, vrOf, exSub, exVar, ex0, smOp, smAt, Function.comp_def, List.map_append]) (by simp [eP, eS, eK, eV, eE, eEs, eEs_eq, eM, eMs, eMs_eq, eBs_eq, vrOf, exSub, exVar, ex0, smOp, smAt, Function.comp_def, List.map_append]) | (simp [eP, eS, eK, eV, eE, eEs, eEs_eq, eM, eMs, eMs_eq, eBs_eq, vrOf, exSub, exVar, ex0, smOp, smAt, Function.comp_def, List.map_append]; done) | exact may_e L _ _  | exact must_e L _ _  | exact kind_e L _ _  | exact in_e L _ | exact out_e _ | exact plain_e L _  | exact array_e L _ _  | exact typed_e L _ _  | exact signed_e L _  | exact value_e L _  | exact names_e L _ _ _ | exact init_e L _ _  | exact declared_e L _ _ _ _ | exact lines_e L _ _ _ _ | exact section_e L _  | exact sections_e L _ _ _ | exact labelled_e L _  | exact labels_e L _ _ _ | exact endCase_e L _  | exact i0 _ _  | exact i1 _ _ _  | exact i2 _  | exact i3 _ _ _  | exact i4 _  | exact i5 _  | exact i6 _  | exact a_loop _ _ _ _ _ _ _ | exact fail_e)
    · unfold Go.Am.exprS
      repeat' (first | with_reducible (first | exact now_e L _ | exact is_e L _ _ | exact any_e L _ _ | exact take_e L _ | exact may_e L _ _  | exact must_e L _ _  | exact kind_e L _ _  | exact in_e L _ | exact out_e _ | exact plain_e L _  | exact array_e L _ _  | exact typed_e L _ _  | exact signed_e L _  | exact value_e L _  | exact names_e L _ _ _ | exact init_e L _ _  | exact declared_e L _ _ _ _ | exact lines_e L _ _ _ _ | exact section_e L _  | exact sections_e L _ _ _ | exact labelled_e L _  | exact labels_e L _ _ _ | exact endCase_e L _  | exact i0 _ _  | exact i1 _ _ _  | exact i2 _  | exact i3 _ _ _  | exact i4 _  | exact i5 _  | exact i6 _  | exact a_loop _ _ _ _ _ _ _ | exact fail_e | exact PE.out | apply PE.bind | refine PE.ite ?_ ?_ ?_ | intro _ _) | exact Iff.rfl | exact PE.ok rfl rfl | exact PE.ok (smAt_e _ _) rfl | exact PE.ok (by simp [eP, eS, eK, eV, eE, eEs, eEs_eq, eM, eMs, eMs_eq, eBs_eq, vrOf, exSub, exVar, ex0, smOp, smAt, Function.comp_def, List.map_append]) rfl | exact PE.ok (by simp [eP, eS, eK, eV, eE, eEs, eEs_eq, eM, eMs, eMs_eq, eBs_eq, vrOf, exSub, exVar, ex0, smOp, smAt, Function.comp_def, List.map_append]) (by simp [eP, eS, eK, eV, eE, eEs, eEs_eq, eM, eMs, eMs_eq, eBs_eq, vrOf, exSub, exVar, ex0, smOp, smAt, Function.comp_def, List.map_append]) | (simp [eP, eS, eK, eV, eE, eEs, eEs_eq, eM, eMs, eMs_eq, eBs_eq, vrOf, exSub, exVar, ex0, smOp, smAt, Function.comp_def, List.map_append]; done) | exact may_e L _ _  | exact must_e L _ _  | exact kind_e L _ _  | exact in_e L _ | exact out_e _ | exact plain_e L _  | exact array_e L _ _  | exact typed_e L _ _  | exact signed_e L _  | exact value_e L _  | exact names_e L _ _ _ | exact init_e L _ _  | exact declared_e L _ _ _ _ | exact lines_e L _ _ _ _ | exact section_e L _  | exact sections_e L _ _ _ | exact labelled_e L _  | exact labels_e L _ _ _ | exact endCase_e L _  | exact i0 _ _  | exact i1 _ _ _  | exact i2 _  | exact i3 _ _ _  | exact i4 _  | exact i5 _  | exact i6 _  | exact a_loop _ _ _ _ _ _ _ | exact fail_e)
    · unfold Go.Am.indexS
      repeat' (first | with_reducible (first | exact now_e L _ | exact is_e L _ _ | exact any_e L _ _ | exact take_e L _ | exact may_e L _ _  | exact must_e L _ _  | exact kind_e L _ _  | exact in_e L _ | exact out_e _ | exact plain_e L _  | exact array_e L _ _  | exact typed_e L _ _  | exact signed_e L _  | exact value_e L _  | exact names_e L _ _ _ | exact init_e L _ _  | exact declared_e L _ _ _ _ | exact lines_e L _ _ _ _ | exact section_e L _  | exact sections_e L _ _ _ | exact labelled_e L _  | exact labels_e L _ _ _ | exact endCase_e L _  | exact i0 _ _  | exact i1 _ _ _  | exact i2 _  | exact i3 _ _ _  | exact i4 _  | exact i5 _  | exact i6 _  | exact a_loop _ _ _ _ _ _ _ | exact fail_e | exact PE.out | apply PE.bind | refine PE.ite ?_ ?_ ?_ | intro _ _) | exact Iff.rfl | exact PE.ok rfl rfl | exact PE.ok (smAt_e _ _) rfl | exact PE.ok (by simp [eP, eS, eK, eV, eE, eEs, eEs_eq, eM, eMs, eMs_eq, eBs_eq, vrOf, exSub, exVar, ex0, smOp, smAt, Function.comp_def, List.map_append]) rfl | exact PE.ok (by simp [eP, eS, eK, eV, eE, eEs, eEs_eq, eM, eMs, eMs_eq, eBs_eq, vrOf, exSub, exVar, ex0, smOp, smAt, Function.comp_def, List.map_append]) (by simp [eP, eS, eK, eV, eE, eEs, eEs_eq, eM, eMs, eMs_eq, eBs_eq, vrOf, exSub, exVar, ex0, smOp, smAt, Function.comp_def, List.map_append]) | (simp [eP, eS, eK, eV, eE, eEs, eEs_eq, eM, eMs, eMs_eq, eBs_eq, vrOf, exSub, exVar, ex0, smOp, smAt, Function.comp_def, List.map_append]; done) | exact may_e L _ _  | exact must_e L _ _  | exact kind_e L _ _  | exact in_e L _ | exact out_e _ | exact plain_e L _  | exact array_e L _ _  | exact typed_e L _ _  | exact signed_e L _  | exact value_e L _  | exact names_e L _ _ _ | exact init_e L _ _  | exact declared_e L _ _ _ _ | exact lines_e L _ _ _ _ | exact section_e L _  | exact sections_e L _ _ _ | exact labelled_e L _  | exact labels_e L _ _ _ | exact endCase_e L _  | exact i0 _ _  | exact i1 _ _ _  | exact i2 _  | exact i3 _ _ _  | exact i4 _  | exact i5 _  | exact i6 _  | exact a_loop _ _ _ _ _ _ _ | exact fail_e)
    · unfold Go.Am.factorS
      repeat' (first | with_reducible (first | exact now_e L _ | exact is_e L _ _ | exact any_e L _ _ | exact take_e L _ | exact may_e L _ _  | exact must_e L _ _  | exact kind_e L _ _  | exact in_e L _ | exact out_e _ | exact plain_e L _  | exact array_e L _ _  | exact typed_e L _ _  | exact signed_e L _  | exact value_e L _  | exact names_e L _ _ _ | exact init_e L _ _  | exact declared_e L _ _ _ _ | exact lines_e L _ _ _ _ | exact section_e L _  | exact sections_e L _ _ _ | exact labelled_e L _  | exact labels_e L _ _ _ | exact endCase_e L _  | exact i0 _ _  | exact i1 _ _ _  | exact i2 _  | exact i3 _ _ _  | exact i4 _  | exact i5 _  | exact i6 _  | exact a_loop _ _ _ _ _ _ _ | exact fail_e | exact PE.out | apply PE.bind | refine PE.ite ?_ ?_ ?_ | intro _ _) | exact Iff.rfl | exact PE.ok rfl rfl | exact PE.ok (smAt_e _ _) rfl | exact PE.ok (by simp [eP, eS, eK, eV, eE, eEs, eEs_eq, eM, eMs, eMs_eq, eBs_eq, vrOf, exSub, exVar, ex0, smOp, smAt, Function.comp_def, List.map_append]) rfl | exact PE.ok (by simp [eP, eS, eK, eV, eE, eEs, eEs_eq, eM, eMs, eMs_eq, eBs_eq, vrOf, exSub, exVar, ex0, smOp, smAt, Function.comp_def, List.map_append]) (by simp [eP, eS, eK, eV, eE, eEs, eEs_eq, eM, eMs, eMs_eq, eBs_eq, vrOf, exSub, exVar, ex0, smOp, smAt, Function.comp_def, List.map_append]) | (simp [eP, eS, eK, eV, eE, eEs, eEs_eq, eM, eMs, eMs_eq, eBs_eq, vrOf, exSub, exVar, ex0, smOp, smAt, Function.comp_def, List.map_append]; done) | exact may_e L _ _  | exact must_e L _ _  | exact kind_e L _ _  | exact in_e L _ | exact out_e _ | exact plain_e L _  | exact array_e L _ _  | exact typed_e L _ _  | exact signed_e L _  | exact value_e L _  | exact names_e L _ _ _ | exact init_e L _ _  | exact declared_e L _ _ _ _ | exact lines_e L _ _ _ _ | exact section_e L _  | exact sections_e L _ _ _ | exact labelled_e L _  | exact labels_e L _ _ _ | exact endCase_e L _  | exact i0 _ _  | exact i1 _ _ _  | exact i2 _  | exact i3 _ _ _  | exact i4 _  | exact i5 _  | exact i6 _  | exact a_loop _ _ _ _ _ _ _ | exact fail_e)
structure ErS (f : Nat) : Prop where
  block : ∀ w s, PE (List.map eM) (Go.Am.blockS L f w s) (Go.Am.blockS (L.map eS) f w (eP s))
  blockL : ∀ w l s, PE (List.map eM) (Go.Am.blockL L f w l s) (Go.Am.blockL (L.map eS) f w (l.map eM) (eP s))
  stmt : ∀  s, PE eM (Go.Am.stmtS L f  s) (Go.Am.stmtS (L.map eS) f  (eP s))
  opn : ∀  s, PE eM (Go.Am.openS L f  s) (Go.Am.openS (L.map eS) f  (eP s))
  branches : ∀  s, PE eM (Go.Am.branchesS L f  s) (Go.Am.branchesS (L.map eS) f  (eP s))
  branchesL : ∀ c l s, PE eM (Go.Am.branchesL L f c l s) (Go.Am.branchesL (L.map eS) f (c.map eE) (l.map (List.map eM)) (eP s))
  cases : ∀  s, PE eM (Go.Am.casesS L f  s) (Go.Am.casesS (L.map eS) f  (eP s))
  casesL : ∀ v c l s, PE eM (Go.Am.casesL L f v c l s) (Go.Am.casesL (L.map eS) f (eE v) c (l.map (List.map eM)) (eP s))
  caseL : ∀ l s, PE (List.map eM) (Go.Am.caseL L f l s) (Go.Am.caseL (L.map eS) f (l.map eM) (eP s))
  counted : ∀  s, PE eM (Go.Am.countedS L f  s) (Go.Am.countedS (L.map eS) f  (eP s))
  call : ∀ n s, PE eM (Go.Am.callS L f n s) (Go.Am.callS (L.map eS) f n (eP s))
  callL : ∀ n c l s, PE eM (Go.Am.callL L f n c l s) (Go.Am.callL (L.map eS) f n c (l.map eE) (eP s))
theorem erS : ∀ f, ErS L f
  | 0 => ⟨fun _ _ => rfl, fun _ _ _ => rfl, fun _ => rfl, fun _ => rfl, fun _ => rfl, fun _ _ _ => rfl, fun _ => rfl, fun _ _ _ _ => rfl, fun _ _ => rfl, fun _ => rfl, fun _ _ => rfl, fun _ _ _ _ => rfl⟩
  | f + 1 => by
    have ih := erS f
    have ihE := erE L f
    have e1 := ihE.expr
    have e2 := ihE.index
    have i0 := ih.block
    have i1 := ih.blockL
    have i2 := ih.stmt
    have i3 := ih.opn
    have i4 := ih.branches
    have i5 := ih.branchesL
    have i6 := ih.cases
    have i7 := ih.casesL
    have i8 := ih.caseL
    have i9 := ih.counted
    have i10 := ih.call
    have i11 := ih.callL
    have a_blockL := fun w l x s => ih.blockL w (l ++ [x]) s
    simp only [List.map_append, List.map_cons, List.map_nil] at a_blockL
    have a_branchesL := fun c l x y s => ih.branchesL (c ++ [x]) (l ++ [y]) s
    simp only [List.map_append, List.map_cons, List.map_nil] at a_branchesL
    have a_casesL := fun v c l x s => ih.casesL v c (l ++ [x]) s
    simp only [List.map_append, List.map_cons, List.map_nil] at a_casesL
    have a_caseL := fun l x s => ih.caseL (l ++ [x]) s
    simp only [List.map_append, List.map_cons, List.map_nil] at a_caseL
    have a_callL := fun n c l x s => ih.callL n c (l ++ [x]) s
    simp only [List.map_append, List.map_cons, List.map_nil] at a_callL
    refine ⟨?_, ?_, ?_, ?_, ?_, ?_, ?_, ?_, ?_, ?_, ?_, ?_⟩ <;> intros
    · unfold Go.Am.blockS
      repeat' (first | with_reducible (first | exact now_e L _ | exact is_e L _ _ | exact any_e L _ _ | exact take_e L _ | exact may_e L _ _  | exact must_e L _ _  | exact kind_e L _ _  | exact in_e L _ | exact out_e _ | exact plain_e L _  | exact array_e L _ _  | exact typed_e L _ _  | exact signed_e L _  | exact value_e L _  | exact names_e L _ _ _ | exact init_e L _ _  | exact declared_e L _ _ _ _ | exact lines_e L _ _ _ _ | exact section_e L _  | exact sections_e L _ _ _ | exact labelled_e L _  | exact labels_e L _ _ _ | exact endCase_e L _  | exact (erE L _).expr _ | exact i0 _ _  | exact i1 _ _ _  | exact i2 _  | exact i3 _  | exact i4 _  | exact i5 _ _ _  | exact i6 _  | exact i7 _ _ _ _  | exact i8 _ _  | exact i9 _  | exact i10 _ _  | exact i11 _ _ _ _  | exact a_blockL _ _ _ _  | exact a_branchesL _ _ _ _ _  | exact a_casesL _ _ _ _ _  | exact a_caseL _ _ _  | exact a_callL _ _ _ _ _  | exact e1 _ | exact e2 _ | exact i1 _ [] _ | exact i5 [] [] _ | exact i7 _ _ [] _ | exact i8 [] _ | exact i11 _ _ [] _ | exact fail_e | exact PE.out | apply PE.bind | refine PE.ite ?_ ?_ ?_ | intro _ _) | exact Iff.rfl | exact PE.ok rfl rfl | exact PE.ok (smAt_e _ _) rfl | exact PE.ok (by simp [eP, eS, eK, eV, eE, eEs, eEs_eq, eM, eMs, eMs_eq, eBs_eq, vrOf, exSub, exVar, ex0, smOp, smAt, Function.comp_def, List.map_append]) rfl | exact PE.ok (by simp [eP, eS, eK, eV, eE, eEs, eEs_eq, eM, eMs, eMs_eq, eBs_eq, vrOf, exSub, exVar, ex0, smOp, smAt, Function.comp_def, List.map_append]) (by simp [eP, eS, eK, eV, eE, eEs, eEs_eq, eM, eMs, eMs_eq, eBs_eq, vrOf, exSub, exVar, ex0, smOp, smAt, Function.comp_def, List.map_append]) | (simp [eP, eS, eK, eV, eE, eEs, eEs_eq, eM, eMs, eMs_eq, eBs_eq, vrOf, exSub, exVar, ex0, smOp, smAt, Function.comp_def, List.map_append]; done) | exact may_e L _ _  | exact must_e L _ _  | exact kind_e L _ _  | exact in_e L _ | exact out_e _ | exact plain_e L _  | exact array_e L _ _  | exact typed_e L _ _  | exact signed_e L _  | exact value_e L _  | exact names_e L _ _ _ | exact init_e L _ _  | exact declared_e L _ _ _ _ | exact lines_e L _ _ _ _ | exact section_e L _  | exact sections_e L _ _ _ | exact labelled_e L _  | exact labels_e L _ _ _ | exact endCase_e L _  | exact (erE L _).expr _ | exact i0 _ _  | exact i1 _ _ _  | exact i2 _  | exact i3 _  | exact i4 _  | exact i5 _ _ _  | exact i6 _  | exact i7 _ _ _ _  | exact i8 _ _  | exact i9 _  | exact i10 _ _  | exact i11 _ _ _ _  | exact a_blockL _ _ _ _  | exact a_branchesL _ _ _ _ _  | exact a_casesL _ _ _ _ _  | exact a_caseL _ _ _  | exact a_callL _ _ _ _ _  | exact e1 _ | exact e2 _ | exact i1 _ [] _ | exact i5 [] [] _ | exact i7 _ _ [] _ | exact i8 [] _ | exact i11 _ _ [] _ | exact fail_e)
    · unfold Go.Am.blockL
      repeat' (first | with_reducible (first | exact now_e L _ | exact is_e L _ _ | exact any_e L _ _ | exact take_e L _ | exact may_e L _ _  | exact must_e L _ _  | exact kind_e L _ _  | exact in_e L _ | exact out_e _ | exact plain_e L _  | exact array_e L _ _  | exact typed_e L _ _  | exact signed_e L _  | exact value_e L _  | exact names_e L _ _ _ | exact init_e L _ _  | exact declared_e L _ _ _ _ | exact lines_e L _ _ _ _ | exact section_e L _  | exact sections_e L _ _ _ | exact labelled_e L _  | exact labels_e L _ _ _ | exact endCase_e L _  | exact (erE L _).expr _ | exact i0 _ _  | exact i1 _ _ _  | exact i2 _  | exact i3 _  | exact i4 _  | exact i5 _ _ _  | exact i6 _  | exact i7 _ _ _ _  | exact i8 _ _  | exact i9 _  | exact i10 _ _  | exact i11 _ _ _ _  | exact a_blockL _ _ _ _  | exact a_branchesL _ _ _ _ _  | exact a_casesL _ _ _ _ _  | exact a_caseL _ _ _  | exact a_callL _ _ _ _ _  | exact e1 _ | exact e2 _ | exact i1 _ [] _ | exact i5 [] [] _ | exact i7 _ _ [] _ | exact i8 [] _ | exact i11 _ _ [] _ | exact fail_e | exact PE.out | apply PE.bind | refine PE.ite ?_ ?_ ?_ | intro _ _) | exact Iff.rfl | exact PE.ok rfl rfl | exact PE.ok (smAt_e _ _) rfl | exact PE.ok (by simp [eP, eS, eK, eV, eE, eEs, eEs_eq, eM, eMs, eMs_eq, eBs_eq, vrOf, exSub, exVar, ex0, smOp, smAt, Function.comp_def, List.map_append]) rfl | exact PE.ok (by simp [eP, eS, eK, eV, eE, eEs, eEs_eq, eM, eMs, eMs_eq, eBs_eq, vrOf, exSub, exVar, ex0, smOp, smAt, Function.comp_def, List.map_append]) (by simp [eP, eS, eK, eV, eE, eEs, eEs_eq, eM, eMs, eMs_eq, eBs_eq, vrOf, exSub, exVar, ex0, smOp, smAt, Function.comp_def, List.map_append]) | (simp [eP, eS, eK, eV, eE, eEs, eEs_eq, eM, eMs, eMs_eq, eBs_eq, vrOf, exSub, exVar, ex0, smOp, smAt, Function.comp_def, List.map_append]; done) | exact may_e L _ _  | exact must_e L _ _  | exact kind_e L _ _  | exact in_e L _ | exact out_e _ | exact plain_e L _  | exact array_e L _ _  | exact typed_e L _ _  | exact signed_e L _  | exact value_e L _  | exact names_e L _ _ _ | exact init_e L _ _  | exact declared_e L _ _ _ _ | exact lines_e L _ _ _ _ | exact section_e L _  | exact sections_e L _ _ _ | exact labelled_e L _  | exact labels_e L _ _ _ | exact endCase_e L _  | exact (erE L _).expr _ | exact i0 _ _  | exact i1 _ _ _  | exact i2 _  | exact i3 _  | exact i4 _  | exact i5 _ _ _  | exact i6 _  | exact i7 _ _ _ _  | exact i8 _ _  | exact i9 _  | exact i10 _ _  | exact i11 _ _ _ _  | exact a_blockL _ _ _ _  | exact a_branchesL _ _ _ _ _  | exact a_casesL _ _ _ _ _  | exact a_caseL _ _ _  | exact a_callL _ _ _ _ _  | exact e1 _ | exact e2 _ | exact i1 _ [] _ | exact i5 [] [] _ | exact i7 _ _ [] _ | exact i8 [] _ | exact i11 _ _ [] _ | exact fail_e)
    · unfold Go.Am.stmtS
      repeat' (first | with_reducible (first | exact now_e L _ | exact is_e L _ _ | exact any_e L _ _ | exact take_e L _ | exact may_e L _ _  | exact must_e L _ _  | exact kind_e L _ _  | exact in_e L _ | exact out_e _ | exact plain_e L _  | exact array_e L _ _  | exact typed_e L _ _  | exact signed_e L _  | exact value_e L _  | exact names_e L _ _ _ | exact init_e L _ _  | exact declared_e L _ _ _ _ | exact lines_e L _ _ _ _ | exact section_e L _  | exact sections_e L _ _ _ | exact labelled_e L _  | exact labels_e L _ _ _ | exact endCase_e L _  | exact (erE L _).expr _ | exact i0 _ _  | exact i1 _ _ _  | exact i2 _  | exact i3 _  | exact i4 _  | exact i5 _ _ _  | exact i6 _  | exact i7 _ _ _ _  | exact i8 _ _  | exact i9 _  | exact i10 _ _  | exact i11 _ _ _ _  | exact a_blockL _ _ _ _  | exact a_branchesL _ _ _ _ _  | exact a_casesL _ _ _ _ _  | exact a_caseL _ _ _  | exact a_callL _ _ _ _ _  | exact e1 _ | exact e2 _ | exact i1 _ [] _ | exact i5 [] [] _ | exact i7 _ _ [] _ | exact i8 [] _ | exact i11 _ _ [] _ | exact fail_e | exact PE.out | apply PE.bind | refine PE.ite ?_ ?_ ?_ | intro _ _) | exact Iff.rfl | exact PE.ok rfl rfl | exact PE.ok (smAt_e _ _) rfl | exact PE.ok (by simp [eP, eS, eK, eV, eE, eEs, eEs_eq, eM, eMs, eMs_eq, eBs_eq, vrOf, exSub, exVar, ex0, smOp, smAt, Function.comp_def, List.map_append]) rfl | exact PE.ok (by simp [eP, eS, eK, eV, eE, eEs, eEs_eq, eM, eMs, eMs_eq, eBs_eq, vrOf, exSub, exVar, ex0, smOp, smAt, Function.comp_def, List.map_append]) (by simp [eP, eS, eK, eV, eE, eEs, eEs_eq, eM, eMs, eMs_eq, eBs_eq, vrOf, exSub, exVar, ex0, smOp, smAt, Function.comp_def, List.map_append]) | (simp [eP, eS, eK, eV, eE, eEs, eEs_eq, eM, eMs, eMs_eq, eBs_eq, vrOf, exSub, exVar, ex0, smOp, smAt, Function.comp_def, List.map_append]; done) | exact may_e L _ _  | exact must_e L _ _  | exact kind_e L _ _  | exact in_e L _ | exact out_e _ | exact plain_e L _  | exact array_e L _ _  | exact typed_e L _ _  | exact signed_e L _  | exact value_e L _  | exact names_e L _ _ _ | exact init_e L _ _  | exact declared_e L _ _ _ _ | exact lines_e L _ _ _ _ | exact section_e L _  | exact sections_e L _ _ _ | exact labelled_e L _  | exact labels_e L _ _ _ | exact endCase_e L _  | exact (erE L _).expr _ | exact i0 _ _  | exact i1 _ _ _  | exact i2 _  | exact i3 _  | exact i4 _  | exact i5 _ _ _  | exact i6 _  | exact i7 _ _ _ _  | exact i8 _ _  | exact i9 _  | exact i10 _ _  | exact i11 _ _ _ _  | exact a_blockL _ _ _ _  | exact a_branchesL _ _ _ _ _  | exact a_casesL _ _ _ _ _  | exact a_caseL _ _ _  | exact a_callL _ _ _ _ _  | exact e1 _ | exact e2 _ | exact i1 _ [] _ | exact i5 [] [] _ | exact i7 _ _ [] _ | exact i8 [] _ | exact i11 _ _ [] _ | exact fail_e)
    · unfold Go.Am.openS
      repeat' (first | with_reducible (first | exact now_e L _ | exact is_e L _ _ | exact any_e L _ _ | exact take_e L _ | exact may_e L _ _  | exact must_e L _ _  | exact kind_e L _ _  | exact in_e L _ | exact out_e _ | exact plain_e L _  | exact array_e L _ _  | exact typed_e L _ _  | exact signed_e L _  | exact value_e L _  | exact names_e L _ _ _ | exact init_e L _ _  | exact declared_e L _ _ _ _ | exact lines_e L _ _ _ _ | exact section_e L _  | exact sections_e L _ _ _ | exact labelled_e L _  | exact labels_e L _ _ _ | exact endCase_e L _  | exact (erE L _).expr _ | exact i0 _ _  | exact i1 _ _ _  | exact i2 _  | exact i3 _  | exact i4 _  | exact i5 _ _ _  | exact i6 _  | exact i7 _ _ _ _  | exact i8 _ _  | exact i9 _  | exact i10 _ _  | exact i11 _ _ _ _  | exact a_blockL _ _ _ _  | exact a_branchesL _ _ _ _ _  | exact a_casesL _ _ _ _ _  | exact a_caseL _ _ _  | exact a_callL _ _ _ _ _  | exact e1 _ | exact e2 _ | exact i1 _ [] _ | exact i5 [] [] _ | exact i7 _ _ [] _ | exact i8 [] _ | exact i11 _ _ [] _ | exact fail_e | exact PE.out | refine PE.bind (g := eE) (PE.ite ?_ ?_ ?_) (fun _ _ => ?_) | apply PE.bind | refine PE.ite ?_ ?_ ?_ | intro _ _) | exact Iff.rfl | exact PE.ok rfl rfl | exact PE.ok (smAt_e _ _) rfl | exact PE.ok (by simp [eP, eS, eK, eV, eE, eEs, eEs_eq, eM, eMs, eMs_eq, eBs_eq, vrOf, exSub, exVar, ex0, smOp, smAt, Function.comp_def, List.map_append]) rfl | exact PE.ok (by simp [eP, eS, eK, eV, eE, eEs, eEs_eq, eM, eMs, eMs_eq, eBs_eq, vrOf, exSub, exVar, ex0, smOp, smAt, Function.comp_def, List.map_append]) (by simp [eP, eS, eK, eV, eE, eEs, eEs_eq, eM, eMs, eMs_eq, eBs_eq, vrOf, exSub, exVar, ex0, smOp, smAt, Function.comp_def, List.map_append]) | (simp [eP, eS, eK, eV, eE, eEs, eEs_eq, eM, eMs, eMs_eq, eBs_eq, vrOf, exSub, exVar, ex0, smOp, smAt, Function.comp_def, List.map_append]; done) | exact may_e L _ _  | exact must_e L _ _  | exact kind_e L _ _  | exact in_e L _ | exact out_e _ | exact plain_e L _  | exact array_e L _ _  | exact typed_e L _ _  | exact signed_e L _  | exact value_e L _  | exact names_e L _ _ _ | exact init_e L _ _  | exact declared_e L _ _ _ _ | exact lines_e L _ _ _ _ | exact section_e L _  | exact sections_e L _ _ _ | exact labelled_e L _  | exact labels_e L _ _ _ | exact endCase_e L _  | exact (erE L _).expr _ | exact i0 _ _  | exact i1 _ _ _  | exact i2 _  | exact i3 _  | exact i4 _  | exact i5 _ _ _  | exact i6 _  | exact i7 _ _ _ _  | exact i8 _ _  | exact i9 _  | exact i10 _ _  | exact i11 _ _ _ _  | exact a_blockL _ _ _ _  | exact a_branchesL _ _ _ _ _  | exact a_casesL _ _ _ _ _  | exact a_caseL _ _ _  | exact a_callL _ _ _ _ _  | exact e1 _ | exact e2 _ | exact i1 _ [] _ | exact i5 [] [] _ | exact i7 _ _ [] _ | exact i8 [] _ | exact i11 _ _ [] _ | exact fail_e)
    · unfold Go.Am.branchesS
      repeat' (first | with_reducible (first | exact now_e L _ | exact is_e L _ _ | exact any_e L _ _ | exact take_e L _ | exact may_e L _ _  | exact must_e L _ _  | exact kind_e L _ _  | exact in_e L _ | exact out_e _ | exact plain_e L _  | exact array_e L _ _  | exact typed_e L _ _  | exact signed_e L _  | exact value_e L _  | exact names_e L _ _ _ | exact init_e L _ _  | exact declared_e L _ _ _ _ | exact lines_e L _ _ _ _ | exact section_e L _  | exact sections_e L _ _ _ | exact labelled_e L _  | exact labels_e L _ _ _ | exact endCase_e L _  | exact (erE L _).expr _ | exact i0 _ _  | exact i1 _ _ _  | exact i2 _  | exact i3 _  | exact i4 _  | exact i5 _ _ _  | exact i6 _  | exact i7 _ _ _ _  | exact i8 _ _  | exact i9 _  | exact i10 _ _  | exact i11 _ _ _ _  | exact a_blockL _ _ _ _  | exact a_branchesL _ _ _ _ _  | exact a_casesL _ _ _ _ _  | exact a_caseL _ _ _  | exact a_callL _ _ _ _ _  | exact e1 _ | exact e2 _ | exact i1 _ [] _ | exact i5 [] [] _ | exact i7 _ _ [] _ | exact i8 [] _ | exact i11 _ _ [] _ | exact fail_e | exact PE.out | apply PE.bind | refine PE.ite ?_ ?_ ?_ | intro _ _) | exact Iff.rfl | exact PE.ok rfl rfl | exact PE.ok (smAt_e _ _) rfl | exact PE.ok (by simp [eP, eS, eK, eV, eE, eEs, eEs_eq, eM, eMs, eMs_eq, eBs_eq, vrOf, exSub, exVar, ex0, smOp, smAt, Function.comp_def, List.map_append]) rfl | exact PE.ok (by simp [eP, eS, eK, eV, eE, eEs, eEs_eq, eM, eMs, eMs_eq, eBs_eq, vrOf, exSub, exVar, ex0, smOp, smAt, Function.comp_def, List.map_append]) (by simp [eP, eS, eK, eV, eE, eEs, eEs_eq, eM, eMs, eMs_eq, eBs_eq, vrOf, exSub, exVar, ex0, smOp, smAt, Function.comp_def, List.map_append]) | (simp [eP, eS, eK, eV, eE, eEs, eEs_eq, eM, eMs, eMs_eq, eBs_eq, vrOf, exSub, exVar, ex0, smOp, smAt, Function.comp_def, List.map_append]; done) | exact may_e L _ _  | exact must_e L _ _  | exact kind_e L _ _  | exact in_e L _ | exact out_e _ | exact plain_e L _  | exact array_e L _ _  | exact typed_e L _ _  | exact signed_e L _  | exact value_e L _  | exact names_e L _ _ _ | exact init_e L _ _  | exact declared_e L _ _ _ _ | exact lines_e L _ _ _ _ | exact section_e L _  | exact sections_e L _ _ _ | exact labelled_e L _  | exact labels_e L _ _ _ | exact endCase_e L _  | exact (erE L _).expr _ | exact i0 _ _  | exact i1 _ _ _  | exact i2 _  | exact i3 _  | exact i4 _  | exact i5 _ _ _  | exact i6 _  | exact i7 _ _ _ _  | exact i8 _ _  | exact i9 _  | exact i10 _ _  | exact i11 _ _ _ _  | exact a_blockL _ _ _ _  | exact a_branchesL _ _ _ _ _  | exact a_casesL _ _ _ _ _  | exact a_caseL _ _ _  | exact a_callL _ _ _ _ _  | exact e1 _ | exact e2 _ | exact i1 _ [] _ | exact i5 [] [] _ | exact i7 _ _ [] _ | exact i8 [] _ | exact i11 _ _ [] _ | exact fail_e)
    · unfold Go.Am.branchesL
      repeat' (first | with_reducible (first | exact now_e L _ | exact is_e L _ _ | exact any_e L _ _ | exact take_e L _ | exact may_e L _ _  | exact must_e L _ _  | exact kind_e L _ _  | exact in_e L _ | exact out_e _ | exact plain_e L _  | exact array_e L _ _  | exact typed_e L _ _  | exact signed_e L _  | exact value_e L _  | exact names_e L _ _ _ | exact init_e L _ _  | exact declared_e L _ _ _ _ | exact lines_e L _ _ _ _ | exact section_e L _  | exact sections_e L _ _ _ | exact labelled_e L _  | exact labels_e L _ _ _ | exact endCase_e L _  | exact (erE L _).expr _ | exact i0 _ _  | exact i1 _ _ _  | exact i2 _  | exact i3 _  | exact i4 _  | exact i5 _ _ _  | exact i6 _  | exact i7 _ _ _ _  | exact i8 _ _  | exact i9 _  | exact i10 _ _  | exact i11 _ _ _ _  | exact a_blockL _ _ _ _  | exact a_branchesL _ _ _ _ _  | exact a_casesL _ _ _ _ _  | exact a_caseL _ _ _  | exact a_callL _ _ _ _ _  | exact e1 _ | exact e2 _ | exact i1 _ [] _ | exact i5 [] [] _ | exact i7 _ _ [] _ | exact i8 [] _ | exact i11 _ _ [] _ | exact fail_e | exact PE.out | refine PE.bind (g := (List.map (List.map eM))) (PE.ite ?_ ?_ ?_) (fun _ _ => ?_) | apply PE.bind | refine PE.ite ?_ ?_ ?_ | intro _ _) | exact Iff.rfl | exact PE.ok rfl rfl | exact PE.ok (smAt_e _ _) rfl | exact PE.ok (by simp [eP, eS, eK, eV, eE, eEs, eEs_eq, eM, eMs, eMs_eq, eBs_eq, vrOf, exSub, exVar, ex0, smOp, smAt, Function.comp_def, List.map_append]) rfl | exact PE.ok (by simp [eP, eS, eK, eV, eE, eEs, eEs_eq, eM, eMs, eMs_eq, eBs_eq, vrOf, exSub, exVar, ex0, smOp, smAt, Function.comp_def, List.map_append]) (by simp [eP, eS, eK, eV, eE, eEs, eEs_eq, eM, eMs, eMs_eq, eBs_eq, vrOf, exSub, exVar, ex0, smOp, smAt, Function.comp_def, List.map_append]) | (simp [eP, eS, eK, eV, eE, eEs, eEs_eq, eM, eMs, eMs_eq, eBs_eq, vrOf, exSub, exVar, ex0, smOp, smAt, Function.comp_def, List.map_append]; done) | exact may_e L _ _  | exact must_e L _ _  | exact kind_e L _ _  | exact in_e L _ | exact out_e _ | exact plain_e L _  | exact array_e L _ _  | exact typed_e L _ _  | exact signed_e L _  | exact value_e L _  | exact names_e L _ _ _ | exact init_e L _ _  | exact declared_e L _ _ _ _ | exact lines_e L _ _ _ _ | exact section_e L _  | exact sections_e L _ _ _ | exact labelled_e L _  | exact labels_e L _ _ _ | exact endCase_e L _  | exact (erE L _).expr _ | exact i0 _ _  | exact i1 _ _ _  | exact i2 _  | exact i3 _  | exact i4 _  | exact i5 _ _ _  | exact i6 _  | exact i7 _ _ _ _  | exact i8 _ _  | exact i9 _  | exact i10 _ _  | exact i11 _ _ _ _  | exact a_blockL _ _ _ _  | exact a_branchesL _ _ _ _ _  | exact a_casesL _ _ _ _ _  | exact a_caseL _ _ _  | exact a_callL _ _ _ _ _  | exact e1 _ | exact e2 _ | exact i1 _ [] _ | exact i5 [] [] _ | exact i7 _ _ [] _ | exact i8 [] _ | exact i11 _ _ [] _ | exact fail_e)
    · unfold Go.Am.casesS
      repeat' (first | with_reducible (first | exact now_e L _ | exact is_e L _ _ | exact any_e L _ _ | exact take_e L _ | exact may_e L _ _  | exact must_e L _ _  | exact kind_e L _ _  | exact in_e L _ | exact out_e _ | exact plain_e L _  | exact array_e L _ _  | exact typed_e L _ _  | exact signed_e L _  | exact value_e L _  | exact names_e L _ _ _ | exact init_e L _ _  | exact declared_e L _ _ _ _ | exact lines_e L _ _ _ _ | exact section_e L _  | exact sections_e L _ _ _ | exact labelled_e L _  | exact labels_e L _ _ _ | exact endCase_e L _  | exact (erE L _).expr _ | exact i0 _ _  | exact i1 _ _ _  | exact i2 _  | exact i3 _  | exact i4 _  | exact i5 _ _ _  | exact i6 _  | exact i7 _ _ _ _  | exact i8 _ _  | exact i9 _  | exact i10 _ _  | exact i11 _ _ _ _  | exact a_blockL _ _ _ _  | exact a_branchesL _ _ _ _ _  | exact a_casesL _ _ _ _ _  | exact a_caseL _ _ _  | exact a_callL _ _ _ _ _  | exact e1 _ | exact e2 _ | exact i1 _ [] _ | exact i5 [] [] _ | exact i7 _ _ [] _ | exact i8 [] _ | exact i11 _ _ [] _ | exact fail_e | exact PE.out | apply PE.bind | refine PE.ite ?_ ?_ ?_ | intro _ _) | exact Iff.rfl | exact PE.ok rfl rfl | exact PE.ok (smAt_e _ _) rfl | exact PE.ok (by simp [eP, eS, eK, eV, eE, eEs, eEs_eq, eM, eMs, eMs_eq, eBs_eq, vrOf, exSub, exVar, ex0, smOp, smAt, Function.comp_def, List.map_append]) rfl | exact PE.ok (by simp [eP, eS, eK, eV, eE, eEs, eEs_eq, eM, eMs, eMs_eq, eBs_eq, vrOf, exSub, exVar, ex0, smOp, smAt, Function.comp_def, List.map_append]) (by simp [eP, eS, eK, eV, eE, eEs, eEs_eq, eM, eMs, eMs_eq, eBs_eq, vrOf, exSub, exVar, ex0, smOp, smAt, Function.comp_def, List.map_append]) | (simp [eP, eS, eK, eV, eE, eEs, eEs_eq, eM, eMs, eMs_eq, eBs_eq, vrOf, exSub, exVar, ex0, smOp, smAt, Function.comp_def, List.map_append]; done) | exact may_e L _ _  | exact must_e L _ _  | exact kind_e L _ _  | exact in_e L _ | exact out_e _ | exact plain_e L _  | exact array_e L _ _  | exact typed_e L _ _  | exact signed_e L _  | exact value_e L _  | exact names_e L _ _ _ | exact init_e L _ _  | exact declared_e L _ _ _ _ | exact lines_e L _ _ _ _ | exact section_e L _  | exact sections_e L _ _ _ | exact labelled_e L _  | exact labels_e L _ _ _ | exact endCase_e L _  | exact (erE L _).expr _ | exact i0 _ _  | exact i1 _ _ _  | exact i2 _  | exact i3 _  | exact i4 _  | exact i5 _ _ _  | exact i6 _  | exact i7 _ _ _ _  | exact i8 _ _  | exact i9 _  | exact i10 _ _  | exact i11 _ _ _ _  | exact a_blockL _ _ _ _  | exact a_branchesL _ _ _ _ _  | exact a_casesL _ _ _ _ _  | exact a_caseL _ _ _  | exact a_callL _ _ _ _ _  | exact e1 _ | exact e2 _ | exact i1 _ [] _ | exact i5 [] [] _ | exact i7 _ _ [] _ | exact i8 [] _ | exact i11 _ _ [] _ | exact fail_e)
    · unfold Go.Am.casesL
      repeat' (first | with_reducible (first | exact now_e L _ | exact is_e L _ _ | exact any_e L _ _ | exact take_e L _ | exact may_e L _ _  | exact must_e L _ _  | exact kind_e L _ _  | exact in_e L _ | exact out_e _ | exact plain_e L _  | exact array_e L _ _  | exact typed_e L _ _  | exact signed_e L _  | exact value_e L _  | exact names_e L _ _ _ | exact init_e L _ _  | exact declared_e L _ _ _ _ | exact lines_e L _ _ _ _ | exact section_e L _  | exact sections_e L _ _ _ | exact labelled_e L _  | exact labels_e L _ _ _ | exact endCase_e L _  | exact (erE L _).expr _ | exact i0 _ _  | exact i1 _ _ _  | exact i2 _  | exact i3 _  | exact i4 _  | exact i5 _ _ _  | exact i6 _  | exact i7 _ _ _ _  | exact i8 _ _  | exact i9 _  | exact i10 _ _  | exact i11 _ _ _ _  | exact a_blockL _ _ _ _  | exact a_branchesL _ _ _ _ _  | exact a_casesL _ _ _ _ _  | exact a_caseL _ _ _  | exact a_callL _ _ _ _ _  | exact e1 _ | exact e2 _ | exact i1 _ [] _ | exact i5 [] [] _ | exact i7 _ _ [] _ | exact i8 [] _ | exact i11 _ _ [] _ | exact fail_e | exact PE.out | refine PE.bind (g := (List.map (List.map eM))) (PE.ite ?_ ?_ ?_) (fun _ _ => ?_) | apply PE.bind | refine PE.ite ?_ ?_ ?_ | intro _ _) | exact Iff.rfl | exact PE.ok rfl rfl | exact PE.ok (smAt_e _ _) rfl | exact PE.ok (by simp [eP, eS, eK, eV, eE, eEs, eEs_eq, eM, eMs, eMs_eq, eBs_eq, vrOf, exSub, exVar, ex0, smOp, smAt, Function.comp_def, List.map_append]) rfl | exact PE.ok (by simp [eP, eS, eK, eV, eE, eEs, eEs_eq, eM, eMs, eMs_eq, eBs_eq, vrOf, exSub, exVar, ex0, smOp, smAt, Function.comp_def, List.map_append]) (by simp [eP, eS, eK, eV, eE, eEs, eEs_eq, eM, eMs, eMs_eq, eBs_eq, vrOf, exSub, exVar, ex0, smOp, smAt, Function.comp_def, List.map_append]) | (simp [eP, eS, eK, eV, eE, eEs, eEs_eq, eM, eMs, eMs_eq, eBs_eq, vrOf, exSub, exVar, ex0, smOp, smAt, Function.comp_def, List.map_append]; done) | exact may_e L _ _  | exact must_e L _ _  | exact kind_e L _ _  | exact in_e L _ | exact out_e _ | exact plain_e L _  | exact array_e L _ _  | exact typed_e L _ _  | exact signed_e L _  | exact value_e L _  | exact names_e L _ _ _ | exact init_e L _ _  | exact declared_e L _ _ _ _ | exact lines_e L _ _ _ _ | exact section_e L _  | exact sections_e L _ _ _ | exact labelled_e L _  | exact labels_e L _ _ _ | exact endCase_e L _  | exact (erE L _).expr _ | exact i0 _ _  | exact i1 _ _ _  | exact i2 _  | exact i3 _  | exact i4 _  | exact i5 _ _ _  | exact i6 _  | exact i7 _ _ _ _  | exact i8 _ _  | exact i9 _  | exact i10 _ _  | exact i11 _ _ _ _  | exact a_blockL _ _ _ _  | exact a_branchesL _ _ _ _ _  | exact a_casesL _ _ _ _ _  | exact a_caseL _ _ _  | exact a_callL _ _ _ _ _  | exact e1 _ | exact e2 _ | exact i1 _ [] _ | exact i5 [] [] _ | exact i7 _ _ [] _ | exact i8 [] _ | exact i11 _ _ [] _ | exact fail_e)
    · unfold Go.Am.caseL
      repeat' (first | with_reducible (first | exact now_e L _ | exact is_e L _ _ | exact any_e L _ _ | exact take_e L _ | exact may_e L _ _  | exact must_e L _ _  | exact kind_e L _ _  | exact in_e L _ | exact out_e _ | exact plain_e L _  | exact array_e L _ _  | exact typed_e L _ _  | exact signed_e L _  | exact value_e L _  | exact names_e L _ _ _ | exact init_e L _ _  | exact declared_e L _ _ _ _ | exact lines_e L _ _ _ _ | exact section_e L _  | exact sections_e L _ _ _ | exact labelled_e L _  | exact labels_e L _ _ _ | exact endCase_e L _  | exact (erE L _).expr _ | exact i0 _ _  | exact i1 _ _ _  | exact i2 _  | exact i3 _  | exact i4 _  | exact i5 _ _ _  | exact i6 _  | exact i7 _ _ _ _  | exact i8 _ _  | exact i9 _  | exact i10 _ _  | exact i11 _ _ _ _  | exact a_blockL _ _ _ _  | exact a_branchesL _ _ _ _ _  | exact a_casesL _ _ _ _ _  | exact a_caseL _ _ _  | exact a_callL _ _ _ _ _  | exact e1 _ | exact e2 _ | exact i1 _ [] _ | exact i5 [] [] _ | exact i7 _ _ [] _ | exact i8 [] _ | exact i11 _ _ [] _ | exact fail_e | exact PE.out | apply PE.bind | refine PE.ite ?_ ?_ ?_ | intro _ _) | exact Iff.rfl | exact PE.ok rfl rfl | exact PE.ok (smAt_e _ _) rfl | exact PE.ok (by simp [eP, eS, eK, eV, eE, eEs, eEs_eq, eM, eMs, eMs_eq, eBs_eq, vrOf, exSub, exVar, ex0, smOp, smAt, Function.comp_def, List.map_append]) rfl | exact PE.ok (by simp [eP, eS, eK, eV, eE, eEs, eEs_eq, eM, eMs, eMs_eq, eBs_eq, vrOf, exSub, exVar, ex0, smOp, smAt, Function.comp_def, List.map_append]) (by simp [eP, eS, eK, eV, eE, eEs, eEs_eq, eM, eMs, eMs_eq, eBs_eq, vrOf, exSub, exVar, ex0, smOp, smAt, Function.comp_def, List.map_append]) | (simp [eP, eS, eK, eV, eE, eEs, eEs_eq, eM, eMs, eMs_eq, eBs_eq, vrOf, exSub, exVar, ex0, smOp, smAt, Function.comp_def, List.map_append]; done) | exact may_e L _ _  | exact must_e L _ _  | exact kind_e L _ _  | exact in_e L _ | exact out_e _ | exact plain_e L _  | exact array_e L _ _  | exact typed_e L _ _  | exact signed_e L _  | exact value_e L _  | exact names_e L _ _ _ | exact init_e L _ _  | exact declared_e L _ _ _ _ | exact lines_e L _ _ _ _ | exact section_e L _  | exact sections_e L _ _ _ | exact labelled_e L _  | exact labels_e L _ _ _ | exact endCase_e L _  | exact (erE L _).expr _ | exact i0 _ _  | exact i1 _ _ _  | exact i2 _  | exact i3 _  | exact i4 _  | exact i5 _ _ _  | exact i6 _  | exact i7 _ _ _ _  | exact i8 _ _  | exact i9 _  | exact i10 _ _  | exact i11 _ _ _ _  | exact a_blockL _ _ _ _  | exact a_branchesL _ _ _ _ _  | exact a_casesL _ _ _ _ _  | exact a_caseL _ _ _  | exact a_callL _ _ _ _ _  | exact e1 _ | exact e2 _ | exact i1 _ [] _ | exact i5 [] [] _ | exact i7 _ _ [] _ | exact i8 [] _ | exact i11 _ _ [] _ | exact fail_e)
    · unfold Go.Am.countedS
      repeat' (first | with_reducible (first | exact now_e L _ | exact is_e L _ _ | exact any_e L _ _ | exact take_e L _ | exact may_e L _ _  | exact must_e L _ _  | exact kind_e L _ _  | exact in_e L _ | exact out_e _ | exact plain_e L _  | exact array_e L _ _  | exact typed_e L _ _  | exact signed_e L _  | exact value_e L _  | exact names_e L _ _ _ | exact init_e L _ _  | exact declared_e L _ _ _ _ | exact lines_e L _ _ _ _ | exact section_e L _  | exact sections_e L _ _ _ | exact labelled_e L _  | exact labels_e L _ _ _ | exact endCase_e L _  | exact (erE L _).expr _ | exact i0 _ _  | exact i1 _ _ _  | exact i2 _  | exact i3 _  | exact i4 _  | exact i5 _ _ _  | exact i6 _  | exact i7 _ _ _ _  | exact i8 _ _  | exact i9 _  | exact i10 _ _  | exact i11 _ _ _ _  | exact a_blockL _ _ _ _  | exact a_branchesL _ _ _ _ _  | exact a_casesL _ _ _ _ _  | exact a_caseL _ _ _  | exact a_callL _ _ _ _ _  | exact e1 _ | exact e2 _ | exact i1 _ [] _ | exact i5 [] [] _ | exact i7 _ _ [] _ | exact i8 [] _ | exact i11 _ _ [] _ | exact fail_e | exact PE.out | refine PE.bind (g := eE) (PE.ite ?_ ?_ ?_) (fun _ _ => ?_) | apply PE.bind | refine PE.ite ?_ ?_ ?_ | intro _ _) | exact Iff.rfl | exact PE.ok rfl rfl | exact PE.ok (smAt_e _ _) rfl | exact PE.ok (by simp [eP, eS, eK, eV, eE, eEs, eEs_eq, eM, eMs, eMs_eq, eBs_eq, vrOf, exSub, exVar, ex0, smOp, smAt, Function.comp_def, List.map_append]) rfl | exact PE.ok (by simp [eP, eS, eK, eV, eE, eEs, eEs_eq, eM, eMs, eMs_eq, eBs_eq, vrOf, exSub, exVar, ex0, smOp, smAt, Function.comp_def, List.map_append]) (by simp [eP, eS, eK, eV, eE, eEs, eEs_eq, eM, eMs, eMs_eq, eBs_eq, vrOf, exSub, exVar, ex0, smOp, smAt, Function.comp_def, List.map_append]) | (simp [eP, eS, eK, eV, eE, eEs, eEs_eq, eM, eMs, eMs_eq, eBs_eq, vrOf, exSub, exVar, ex0, smOp, smAt, Function.comp_def, List.map_append]; done) | exact may_e L _ _  | exact must_e L _ _  | exact kind_e L _ _  | exact in_e L _ | exact out_e _ | exact plain_e L _  | exact array_e L _ _  | exact typed_e L _ _  | exact signed_e L _  | exact value_e L _  | exact names_e L _ _ _ | exact init_e L _ _  | exact declared_e L _ _ _ _ | exact lines_e L _ _ _ _ | exact section_e L _  | exact sections_e L _ _ _ | exact labelled_e L _  | exact labels_e L _ _ _ | exact endCase_e L _  | exact (erE L _).expr _ | exact i0 _ _  | exact i1 _ _ _  | exact i2 _  | exact i3 _  | exact i4 _  | exact i5 _ _ _  | exact i6 _  | exact i7 _ _ _ _  | exact i8 _ _  | exact i9 _  | exact i10 _ _  | exact i11 _ _ _ _  | exact a_blockL _ _ _ _  | exact a_branchesL _ _ _ _ _  | exact a_casesL _ _ _ _ _  | exact a_caseL _ _ _  | exact a_callL _ _ _ _ _  | exact e1 _ | exact e2 _ | exact i1 _ [] _ | exact i5 [] [] _ | exact i7 _ _ [] _ | exact i8 [] _ | exact i11 _ _ [] _ | exact fail_e)
    · unfold Go.Am.callS
      repeat' (first | with_reducible (first | exact now_e L _ | exact is_e L _ _ | exact any_e L _ _ | exact take_e L _ | exact may_e L _ _  | exact must_e L _ _  | exact kind_e L _ _  | exact in_e L _ | exact out_e _ | exact plain_e L _  | exact array_e L _ _  | exact typed_e L _ _  | exact signed_e L _  | exact value_e L _  | exact names_e L _ _ _ | exact init_e L _ _  | exact declared_e L _ _ _ _ | exact lines_e L _ _ _ _ | exact section_e L _  | exact sections_e L _ _ _ | exact labelled_e L _  | exact labels_e L _ _ _ | exact endCase_e L _  | exact (erE L _).expr _ | exact i0 _ _  | exact i1 _ _ _  | exact i2 _  | exact i3 _  | exact i4 _  | exact i5 _ _ _  | exact i6 _  | exact i7 _ _ _ _  | exact i8 _ _  | exact i9 _  | exact i10 _ _  | exact i11 _ _ _ _  | exact a_blockL _ _ _ _  | exact a_branchesL _ _ _ _ _  | exact a_casesL _ _ _ _ _  | exact a_caseL _ _ _  | exact a_callL _ _ _ _ _  | exact e1 _ | exact e2 _ | exact i1 _ [] _ | exact i5 [] [] _ | exact i7 _ _ [] _ | exact i8 [] _ | exact i11 _ _ [] _ | exact fail_e | exact PE.out | apply PE.bind | refine PE.ite ?_ ?_ ?_ | intro _ _) | exact Iff.rfl | exact PE.ok rfl rfl | exact PE.ok (smAt_e _ _) rfl | exact PE.ok (by simp [eP, eS, eK, eV, eE, eEs, eEs_eq, eM, eMs, eMs_eq, eBs_eq, vrOf, exSub, exVar, ex0, smOp, smAt, Function.comp_def, List.map_append]) rfl | exact PE.ok (by simp [eP, eS, eK, eV, eE, eEs, eEs_eq, eM, eMs, eMs_eq, eBs_eq, vrOf, exSub, exVar, ex0, smOp, smAt, Function.comp_def, List.map_append]) (by simp [eP, eS, eK, eV, eE, eEs, eEs_eq, eM, eMs, eMs_eq, eBs_eq, vrOf, exSub, exVar, ex0, smOp, smAt, Function.comp_def, List.map_append]) | (simp [eP, eS, eK, eV, eE, eEs, eEs_eq, eM, eMs, eMs_eq, eBs_eq, vrOf, exSub, exVar, ex0, smOp, smAt, Function.comp_def, List.map_append]; done) | exact may_e L _ _  | exact must_e L _ _  | exact kind_e L _ _  | exact in_e L _ | exact out_e _ | exact plain_e L _  | exact array_e L _ _  | exact typed_e L _ _  | exact signed_e L _  | exact value_e L _  | exact names_e L _ _ _ | exact init_e L _ _  | exact declared_e L _ _ _ _ | exact lines_e L _ _ _ _ | exact section_e L _  | exact sections_e L _ _ _ | exact labelled_e L _  | exact labels_e L _ _ _ | exact endCase_e L _  | exact (erE L _).expr _ | exact i0 _ _  | exact i1 _ _ _  | exact i2 _  | exact i3 _  | exact i4 _  | exact i5 _ _ _  | exact i6 _  | exact i7 _ _ _ _  | exact i8 _ _  | exact i9 _  | exact i10 _ _  | exact i11 _ _ _ _  | exact a_blockL _ _ _ _  | exact a_branchesL _ _ _ _ _  | exact a_casesL _ _ _ _ _  | exact a_caseL _ _ _  | exact a_callL _ _ _ _ _  | exact e1 _ | exact e2 _ | exact i1 _ [] _ | exact i5 [] [] _ | exact i7 _ _ [] _ | exact i8 [] _ | exact i11 _ _ [] _ | exact fail_e)
    · unfold Go.Am.callL
      repeat' (first | with_reducible (first | exact now_e L _ | exact is_e L _ _ | exact any_e L _ _ | exact take_e L _ | exact may_e L _ _  | exact must_e L _ _  | exact kind_e L _ _  | exact in_e L _ | exact out_e _ | exact plain_e L _  | exact array_e L _ _  | exact typed_e L _ _  | exact signed_e L _  | exact value_e L _  | exact names_e L _ _ _ | exact init_e L _ _  | exact declared_e L _ _ _ _ | exact lines_e L _ _ _ _ | exact section_e L _  | exact sections_e L _ _ _ | exact labelled_e L _  | exact labels_e L _ _ _ | exact endCase_e L _  | exact (erE L _).expr _ | exact i0 _ _  | exact i1 _ _ _  | exact i2 _  | exact i3 _  | exact i4 _  | exact i5 _ _ _  | exact i6 _  | exact i7 _ _ _ _  | exact i8 _ _  | exact i9 _  | exact i10 _ _  | exact i11 _ _ _ _  | exact a_blockL _ _ _ _  | exact a_branchesL _ _ _ _ _  | exact a_casesL _ _ _ _ _  | exact a_caseL _ _ _  | exact a_callL _ _ _ _ _  | exact e1 _ | exact e2 _ | exact i1 _ [] _ | exact i5 [] [] _ | exact i7 _ _ [] _ | exact i8 [] _ | exact i11 _ _ [] _ | exact fail_e | exact PE.out | apply PE.bind | refine PE.ite ?_ ?_ ?_ | intro _ _) | exact Iff.rfl | exact PE.ok rfl rfl | exact PE.ok (smAt_e _ _) rfl | exact PE.ok (by simp [eP, eS, eK, eV, eE, eEs, eEs_eq, eM, eMs, eMs_eq, eBs_eq, vrOf, exSub, exVar, ex0, smOp, smAt, Function.comp_def, List.map_append]) rfl | exact PE.ok (by simp [eP, eS, eK, eV, eE, eEs, eEs_eq, eM, eMs, eMs_eq, eBs_eq, vrOf, exSub, exVar, ex0, smOp, smAt, Function.comp_def, List.map_append]) (by simp [eP, eS, eK, eV, eE, eEs, eEs_eq, eM, eMs, eMs_eq, eBs_eq, vrOf, exSub, exVar, ex0, smOp, smAt, Function.comp_def, List.map_append]) | (simp [eP, eS, eK, eV, eE, eEs, eEs_eq, eM, eMs, eMs_eq, eBs_eq, vrOf, exSub, exVar, ex0, smOp, smAt, Function.comp_def, List.map_append]; done) | exact may_e L _ _  | exact must_e L _ _  | exact kind_e L _ _  | exact in_e L _ | exact out_e _ | exact plain_e L _  | exact array_e L _ _  | exact typed_e L _ _  | exact signed_e L _  | exact value_e L _  | exact names_e L _ _ _ | exact init_e L _ _  | exact declared_e L _ _ _ _ | exact lines_e L _ _ _ _ | exact section_e L _  | exact sections_e L _ _ _ | exact labelled_e L _  | exact labels_e L _ _ _ | exact endCase_e L _  | exact (erE L _).expr _ | exact i0 _ _  | exact i1 _ _ _  | exact i2 _  | exact i3 _  | exact i4 _  | exact i5 _ _ _  | exact i6 _  | exact i7 _ _ _ _  | exact i8 _ _  | exact i9 _  | exact i10 _ _  | exact i11 _ _ _ _  | exact a_blockL _ _ _ _  | exact a_branchesL _ _ _ _ _  | exact a_casesL _ _ _ _ _  | exact a_caseL _ _ _  | exact a_callL _ _ _ _ _  | exact e1 _ | exact e2 _ | exact i1 _ [] _ | exact i5 [] [] _ | exact i7 _ _ [] _ | exact i8 [] _ | exact i11 _ _ [] _ | exact fail_e)
theorem program_e (kn : Tx → Int) (f : Nat) (s : PS) : PE eG (programS L kn f s) (programS (L.map eS) kn f (eP s)) := by
  unfold programS
  refine PE.bind (must_e L _ _) fun _ s => PE.bind (kind_e L _ _) fun nm s => PE.bind (sections_e L _ _ _) fun _ s => PE.bind ((erS L f).block _ _) fun l s => PE.bind (must_e L _ _) fun _ s => PE.bind (kind_e L _ _) fun _ s => PE.ok rfl rfl
end
end Go.Am
end
section
namespace Go.Am
open Go
attribute [simp] stepv.eq_1
attribute [simp] opOk.eq_1
attribute [simp] okAll.eq_1 okAll.eq_2
attribute [simp] Go.Op.operands.eq_1 Go.Op.operands.eq_2 Go.Op.operands.eq_3 Go.Op.operands.eq_4 Go.Op.operands.eq_5 Go.Op.operands.eq_6 Go.Op.operands.eq_7 Go.Op.operands.eq_8 Go.Op.operands.eq_9 Go.Op.operands.eq_10 Go.Op.operands.eq_11 Go.Op.operands.eq_12 Go.Op.operands.eq_13 Go.Op.operands.eq_14 Go.Op.operands.eq_15 Go.Op.operands.eq_16 Go.Op.operands.eq_17 Go.Op.operands.eq_18 Go.Op.operands.eq_19 Go.Op.operands.eq_20 Go.Op.operands.eq_21 Go.Op.operands.eq_22 Go.Op.operands.eq_23 Go.Op.operands.eq_24 Go.Op.operands.eq_25 Go.Op.operands.eq_26 Go.Op.operands.eq_27 Go.Op.operands.eq_28 Go.Op.operands.eq_29 Go.Op.operands.eq_30 Go.Op.operands.eq_31 Go.Op.operands.eq_32 Go.Op.operands.eq_33 Go.Op.operands.eq_34 Go.Op.operands.eq_35 Go.Op.operands.eq_36 Go.Op.operands.eq_37 Go.Op.operands.eq_38 Go.Op.operands.eq_39 Go.Op.operands.eq_40 Go.Op.operands.eq_41 Go.Op.operands.eq_42 Go.Op.operands.eq_43
attribute [simp] St.opd.eq_1 St.opd.eq_2 St.opd.eq_3 St.opd.eq_4
attribute [simp] Env.lk.eq_1 Env.lk.eq_2
attribute [simp] St.put.eq_1 St.put.eq_2
attribute [simp] Mem.get.eq_1 Mem.get.eq_2
attribute [simp] Mem.set.eq_1 Mem.set.eq_2
attribute [simp] AV.solid.eq_1 AV.solid.eq_2 AV.solid.eq_3
attribute [simp] constAV.eq_1 constAV.eq_2 constAV.eq_3 constAV.eq_4 constAV.eq_5 constAV.eq_6
attribute [simp] AV.cells.eq_1 AV.cells.eq_2 AV.cells.eq_3
attribute [simp] loadR.eq_1 loadR.eq_2 loadR.eq_3 loadR.eq_4 loadR.eq_5
attribute [simp] storeR.eq_1 storeR.eq_2 storeR.eq_3
attribute [simp] fieldRm.eq_1 nilCheckR.eq_1 nilCheckR.eq_2 nilCheckR.eq_3
attribute [simp] indexR.eq_1 indexR.eq_2
attribute [simp] binOpR.eq_1 binOpR.eq_2 binOpR.eq_3 binOpR.eq_4
attribute [simp] isNilV.eq_1 isNilV.eq_2 isNilV.eq_3 isNilV.eq_4
attribute [simp] binR.eq_1 binR.eq_2 binR.eq_3 binR.eq_4 binR.eq_5 binR.eq_6 binR.eq_7 binR.eq_8 binR.eq_9
attribute [simp] intBin.eq_1 intBin.eq_2 intBin.eq_3 intBin.eq_4 intBin.eq_5 intBin.eq_6 intBin.eq_7 intBin.eq_8 intBin.eq_9 intBin.eq_10 intBin.eq_11 intBin.eq_12 intBin.eq_13 intBin.eq_14 intBin.eq_15 intBin.eq_16
attribute [simp] strBin.eq_1 strBin.eq_2 strBin.eq_3 strBin.eq_4 strBin.eq_5 strBin.eq_6 strBin.eq_7 strBin.eq_8
attribute [simp] pickR.eq_1
attribute [simp] pickAV.eq_1 pickAV.eq_2
attribute [simp] pickD.eq_1 pickD.eq_2
attribute [simp] grd.eq_1
attribute [simp] mkAgg.eq_1
def consO {α : Type} (y : α) : Option (List α) → Option (List α)
  | some ys => some (y :: ys)
  | none => none
@[simp] theorem consO_some {α : Type} (y : α) (ys : List α) : consO y (some ys) = some (y :: ys) := rfl
@[simp] theorem consO_none {α : Type} (y : α) : consO y none = none := rfl
@[simp] theorem toDs_nil : toDs [] = some [] := rfl
@[simp] theorem toDs_d (y r) : toDs (.d y :: r) = consO y (toDs r) := by
  cases h : toDs r with
  | none => exact toDs.eq_3 _ _ (fun _ _ _ h2 => by rw [h] at h2; cases h2)
  | some ys => exact toDs.eq_2 _ _ _ h
@[simp] theorem toDs_vec (a b c d r) : toDs (.vec a b c d :: r) = none := by rw [toDs.eq_def]
@[simp] theorem toDs_ptr (a b c r) : toDs (.ptr a b c :: r) = none := by rw [toDs.eq_def]
@[simp] theorem toDs_lit (a r) : toDs (.lit a :: r) = none := by rw [toDs.eq_def]
@[simp] theorem toDs_fn (a b r) : toDs (.fn a b :: r) = none := by rw [toDs.eq_def]
@[simp] theorem toDs_nn (r) : toDs (.nn :: r) = none := by rw [toDs.eq_def]
@[simp] theorem toDs_junk (r) : toDs (.junk :: r) = none := by rw [toDs.eq_def]
attribute [simp] moveR.eq_1 moveR.eq_2
attribute [simp] unR.eq_1 unR.eq_2 unR.eq_3 unR.eq_4
attribute [simp] builtinR.eq_1 builtinR.eq_2 builtinR.eq_3 builtinR.eq_4 builtinR.eq_5 builtinR.eq_6
attribute [simp] lenRm.eq_1 lenRm.eq_2 lenRm.eq_3 lenRm.eq_4 lenRm.eq_5
attribute [simp] appR.eq_1
attribute [simp] appSrc.eq_1 appN.eq_1 appN.eq_2 appS.eq_1 appS.eq_2
attribute [simp] fzRes.eq_1 fzRes.eq_2
attribute [simp] srcRows.eq_1 srcRows.eq_2 srcRows.eq_3 srcRows.eq_4 srcRows.eq_5
attribute [simp] makeR.eq_1
attribute [simp] copyR.eq_1
attribute [simp] maxR.eq_1 maxR.eq_2
attribute [simp] foldMax.eq_1 foldMax.eq_2 foldMax.eq_3 foldMax.eq_4
attribute [simp] buildR.eq_1
attribute [simp] fillA.eq_1 fillA.eq_2
attribute [simp] buildSliceR.eq_1
attribute [simp] partDs.eq_1 partDs.eq_2
attribute [simp] convM.eq_1 convM.eq_2
attribute [simp] convR.eq_1 convR.eq_2 convR.eq_3 convR.eq_4 convR.eq_5 convR.eq_6
attribute [simp] makeIfaceR.eq_1
attribute [simp] makeFuncR.eq_1 makeFuncR.eq_2 makeFuncR.eq_3
attribute [simp] extractR.eq_1 extractR.eq_2 fieldVR.eq_1 fieldVR.eq_2 assertR.eq_1
attribute [simp] indexVR.eq_1 indexVR.eq_2 indexVR.eq_3 indexVR.eq_4
attribute [simp] sliceR.eq_1 sliceR.eq_2 sliceR.eq_3 sliceR.eq_4 sliceR.eq_5
attribute [simp] bound.eq_1 bound.eq_2 bound.eq_3
attribute [simp] putCells.eq_1 putCells.eq_2
attribute [simp] nilR.eq_1 nilR.eq_2 nilR.eq_3 nilR.eq_4 nilR.eq_5 nilR.eq_6 nilR.eq_7 nilR.eq_8 nilR.eq_9 nilR.eq_10 nilR.eq_11 nilR.eq_12
attribute [simp] D.cells.eq_1 D.cells.eq_2
attribute [simp] D.size.eq_1 D.size.eq_2
attribute [simp] D.flat.eq_1 D.flat.eq_2
attribute [simp] callVal.eq_1 callVal.eq_2
attribute [simp] argVals.eq_1 argVals.eq_2 fnId.eq_1 fnArgs.eq_1 fnIdN.eq_1 fnArgsN.eq_1 bnB.eq_1
attribute [simp] collect.eq_1 collect.eq_2 collect.eq_3
attribute [simp] argKeys.eq_1 argKeys.eq_2
attribute [simp] argBor.eq_1 argBor.eq_2
attribute [simp] avKeys.eq_1 avKeys.eq_2 avKeys.eq_3 avKeys.eq_4 avKeys.eq_5 avKeys.eq_6 avKeys.eq_7 avKeys.eq_8 avKeys.eq_9 avKeys.eq_10 avKeys.eq_11 avKeys.eq_12
attribute [simp] ptrKeys.eq_1 ptrKeys.eq_2 ptrKeys.eq_3 ptrKeys.eq_4 ptrKeys.eq_5 ptrKeys.eq_6 ptrKeys.eq_7
attribute [simp] vecKeys.eq_1 vecKeys.eq_2 vecKeys.eq_3 vecKeys.eq_4
attribute [simp] contKeys.eq_1 contKeys.eq_2
attribute [simp] vwArgs.eq_1 vwArgs.eq_2
attribute [simp] conts.eq_1 conts.eq_2
attribute [simp] selC.eq_1 selC.eq_2 selC.eq_3
attribute [simp] selE.eq_1 selE.eq_2
attribute [simp] findK.eq_1 findK.eq_2
attribute [simp] callBack.eq_1 callBack.eq_2
attribute [simp] frOk.eq_1 frOk.eq_2
attribute [simp] plainO.eq_1 plainO.eq_2
attribute [simp] plainL.eq_1 plainL.eq_2 plainL.eq_1 plainL.eq_2
attribute [simp] plainC.eq_1 plainC.eq_2 plainC.eq_3
attribute [simp] plainAV.eq_1 plainAV.eq_2 plainAV.eq_3 plainAV.eq_4 plainAV.eq_5 plainAV.eq_6 plainAV.eq_7 plainAV.eq_8 plainAV.eq_9 plainAV.eq_10 plainAV.eq_11 plainAV.eq_12
attribute [simp] plainD.eq_1 plainD.eq_2 plainD.eq_3 plainD.eq_4 plainD.eq_5 plainD.eq_6
attribute [simp] upO.eq_1 upO.eq_2
attribute [simp] up.eq_1 up.eq_2 up.eq_3 up.eq_4 up.eq_5 up.eq_6 up.eq_7 up.eq_8 up.eq_9 up.eq_10 up.eq_11 up.eq_12
attribute [simp] upC.eq_1 upC.eq_2 upC.eq_3
attribute [simp] backL.eq_1 backL.eq_2
attribute [simp] base.eq_1 base.eq_2
attribute [simp] putAll.eq_1 putAll.eq_2
attribute [simp] ghs.eq_1 ghs.eq_2
attribute [simp] Gh.go.eq_1 Gh.go.eq_2 Gh.go.eq_3 Gh.go.eq_4
attribute [simp] St.rekey.eq_1 rkAV.eq_1 rkAV.eq_2 mapB.eq_1 mapB.eq_2 boxD.eq_1 boxD.eq_2 flats.eq_1 flats.eq_2
attribute [simp] finish.eq_1
attribute [simp] resAll.eq_1 resAll.eq_2
attribute [simp] resOne.eq_1 resOne.eq_2
attribute [simp] finKeys.eq_1
attribute [simp] St.trim1.eq_1
attribute [simp] refMem.eq_1 refMem.eq_2 refMem.eq_3
attribute [simp] refEnv.eq_1 refEnv.eq_2
attribute [simp] refAV.eq_1 refAV.eq_2 refAV.eq_3 refAV.eq_4 refAV.eq_5 refAV.eq_6 refAV.eq_7 refAV.eq_8 refAV.eq_9 refAV.eq_10 refAV.eq_11 refAV.eq_12
attribute [simp] St.trim.eq_1
attribute [simp] mapEnv.eq_1 mapEnv.eq_2
attribute [simp] mapM.eq_1 mapM.eq_2
attribute [simp] mapC.eq_1 mapC.eq_2 mapC.eq_3
attribute [simp] trAV.eq_1 trAV.eq_2 trAV.eq_3 trAV.eq_4 trAV.eq_5 trAV.eq_6 trAV.eq_7 trAV.eq_8 trAV.eq_9 trAV.eq_10 trAV.eq_11 trAV.eq_12
attribute [simp] envVals.eq_1 envVals.eq_2
attribute [simp] oneOf.eq_1 oneOf.eq_2
attribute [simp] AV.norm.eq_1 AV.norm.eq_2 AV.norm.eq_3 AV.norm.eq_4
attribute [simp] toD1.eq_1 toD1.eq_2 toD1.eq_3 toD1.eq_4
attribute [simp] toDsN.eq_1 toDsN.eq_2
attribute [simp] vw.eq_1 vw.eq_2 vw.eq_3 vw.eq_4 vw.eq_5 vw.eq_6 vw.eq_7 vw.eq_8 vw.eq_9 vw.eq_10 vw.eq_11 vw.eq_12
attribute [simp] selL.eq_1 selL.eq_2
attribute [simp] TK.agg.eq_1 TK.agg.eq_2 TK.agg.eq_3
attribute [simp] stepK.eq_1 stepK.eq_2 stepK.eq_3
attribute [simp] guardK.eq_1 guardK.eq_2 guardK.eq_3
attribute [simp] grdK.eq_1 grdK.eq_2 grdK.eq_3
attribute [simp] specK.eq_1 specK.eq_2 specK.eq_3
attribute [simp] callK.eq_1 callK.eq_2 callK.eq_3
attribute [simp] panicK.eq_1 panicK.eq_2
attribute [simp] isB.eq_1 isB.eq_2
attribute [simp] boolOf.eq_1 boolOf.eq_2
attribute [simp] boxR.eq_1
attribute [simp] allocR.eq_1 arrR.eq_1 isZ.eq_1 isZ.eq_2 zeroOf.eq_1 zeroOf.eq_2 zeroOf.eq_3
attribute [simp] St.trims.eq_1 St.trims.eq_2
attribute [simp] vws.eq_1 vws.eq_2
attribute [simp] plainAVs.eq_1 plainAVs.eq_2
attribute [simp] plainDs.eq_1 plainDs.eq_2
attribute [simp] ups.eq_1 ups.eq_2
attribute [simp] refAVs.eq_1 refAVs.eq_2
attribute [simp] trAVs.eq_1 trAVs.eq_2
attribute [simp] avsKeys.eq_1 avsKeys.eq_2
attribute [simp] ptrsKeys.eq_1 ptrsKeys.eq_2
attribute [simp] vecsKeys.eq_1 vecsKeys.eq_2
attribute [simp] entryEnv.eq_1 entryEnv.eq_2
attribute [simp] inM.eq_1 inM.eq_2
attribute [simp] runSplit.eq_1 runSplit.eq_2 runSplit.eq_3
attribute [simp] emptyVec.eq_1 emptyVec.eq_2
attribute [simp] splitRun.eq_1
attribute [simp] touch.eq_1 topsOf.eq_1 topsOf.eq_2 topsOf.eq_3
attribute [simp] keysTop.eq_1 keysTop.eq_2
attribute [simp] keyTop.eq_1 keyTop.eq_2 keyTop.eq_3 keyTop.eq_4
attribute [simp] dstepK.eq_1 dstepK.eq_2 dstepK.eq_3
attribute [simp] dguardK.eq_1 dguardK.eq_2 dguardK.eq_3
attribute [simp] dgrdK.eq_1 dgrdK.eq_2 dgrdK.eq_3
attribute [simp] dspecK.eq_1 dspecK.eq_2 dstepG.eq_1 dstepG.eq_2 dstepG.eq_3 dspecG.eq_1 dspecG.eq_2 dcallG.eq_1 dcallG.eq_2
attribute [simp] dcallK.eq_1 dcallK.eq_2 dcallK.eq_3
attribute [simp] fzAV.eq_1 fzAV.eq_2 fzAV.eq_3 fzAV.eq_4 fzAV.eq_5 fzAV.eq_6 fzAV.eq_7 fzAV.eq_8 fzAV.eq_9 fzAV.eq_10 fzAV.eq_11 fzAV.eq_12
attribute [simp] fzAVs.eq_1 fzAVs.eq_2
attribute [simp] St.freeze.eq_1
attribute [simp] St.adopt.eq_1
attribute [simp] Go.Call.operands.eq_1
attribute [simp] D.isByte.eq_1 D.isByte.eq_2
attribute [simp] eqFlat.eq_1 eqFlat.eq_2 eqFlat.eq_3 eqFlat.eq_4
attribute [simp] eqFlats.eq_1 eqFlats.eq_2 eqFlats.eq_3
attribute [simp] glk.eq_1 glk.eq_2
attribute [simp] denK_skip denK_exit denK_ret denK_seq denK_block denK_condT denK_condC denK_region denK_draw drwKA_n seqK_n seqK_x seqK_r seqK_p blkK_n blkK_x blkK_r blkK_p loopK_n loopK_x loopK_r loopK_p leaveK_n leaveK_p finK_n finK_r finK_p runK_nil runK_cons runK_guard callK_ite callBack_ite drwK_cons drwK_guard dcallK_ite dcallG_ite
attribute [simp] frzO.eq_1 frzO.eq_2 frzR.eq_1 frzR.eq_2 mkM.eq_1 mkM.eq_2
attribute [simp] forkK.eq_1 forkK.eq_2
attribute [simp] dforkK.eq_1 dforkK.eq_2
attribute [simp] gdst.eq_1
attribute [simp] Env.kn.eq_1 Env.kn.eq_2 St.kn.eq_1
attribute [simp] ordD.eq_1 ordL.eq_1 ordL.eq_2 ordL.eq_3 ordE.eq_1 ordE.eq_2 ordK.eq_1 ordK.eq_2 revA.eq_1 revA.eq_2 disj.eq_1
attribute [simp] orcAns.eq_1 orcAns.eq_2 liftO.eq_1
@[simp] theorem gval_b (t : Bool) : gval (some (true, .d (.bool t))) = .tru t := rfl
@[simp] theorem gval_t : gval (some (true, .tup [])) = .skip := rfl
attribute [simp] dstAt.eq_1
attribute [simp] St.cz St.prune keyOf St.leave finVals finTrim finOut St.mapAll nvX nv0 callOk entry dead callOp callOp2 callOp3 D.at D.cell D.setCells finPanic
@[simp] theorem vws_d (m ρ bor nv) : ∀ ds : List D, vws m ρ bor nv (ds.map .d) = ds.map .d
  | [] => rfl
  | d :: r => by simp [vws_d m ρ bor nv r]
@[simp] theorem ups_d (ρ bs) : ∀ ds : List D, ups ρ bs (ds.map .d) = ds.map .d
  | [] => rfl
  | d :: r => by simp [ups_d ρ bs r]
@[simp] theorem avsKeys_d : ∀ ds : List D, avsKeys (ds.map .d) = []
  | [] => rfl
  | d :: r => by simp [avsKeys_d r]
@[simp] theorem refAVs_d (k v) : ∀ ds : List D, refAVs k v (ds.map .d) = none
  | [] => rfl
  | d :: r => by simp [refAVs_d k v r]
@[simp] theorem trAVs_d (k v o l) : ∀ ds : List D, trAVs k v o l (ds.map .d) = ds.map .d
  | [] => rfl
  | d :: r => by simp [trAVs_d k v o l r]
@[simp] theorem plainAVs_d : ∀ ds : List D, plainAVs (ds.map .d) = plainDs ds
  | [] => rfl
  | d :: r => by simp [plainAVs_d r]
attribute [simp] List.take_of_length_le
@[simp] def Code.at : Code → List Nat → Code
  | c, [] => c
  | .seq a b, i :: p => if i = 0 then Code.at a p else Code.at b p
  | .cond _ a b, i :: p => if i = 0 then Code.at a p else Code.at b p
  | .block _ c, _ :: p => Code.at c p
  | .loop c, _ :: p => Code.at c p
  | c, _ => c
end Go.Am
end
