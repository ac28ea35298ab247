/-
  The abstract machine, part 21: the evaluator.
-/
import Derived.Test.YtlbbjmbfclmmdaaDoorAm20
namespace Go.Am
open Go

inductive Gh where
  | trim (k : Nat)
  | freeze (k : Nat)
  | adopt (kb j k sz : Nat)

structure Ctx where
  P : Program
  gl : List (Nat × D)
  keep : FuncId → Nat → List Nat
  gh : FuncId → Nat → List Gh
  md : FuncId → Nat → Bool
  fp : FuncId → FPol

abbrev CallFn := FuncId → List AV → List Cont → Option (Out × List (Nat × Cont))

/-- A function of the program that has a body. -/
def callable (P : Program) (g : FuncId) : Bool :=
  match P.funcs[g]? with
  | some fn => fn.body.isSome && !(fn.name == "runtime.NumGoroutine")
  | none => false

/- Calls. -/
mutual
def ptrKeys : AV → List Nat
  | .vec _ _ _ _ => []
  | .ptr k _ _ => [k]
  | .eptr k _ _ _ => [k]
  | .agg cs => ptrsKeys cs
  | .fn _ cap => avsKeys cap
  | .tup vs => ptrsKeys vs
  | _ => []
def ptrsKeys : List AV → List Nat
  | [] => []
  | x :: r => ptrKeys x ++ ptrsKeys r
end
mutual
def vecKeys : AV → List Nat
  | .vec k _ _ _ => [k]
  | .agg cs => vecsKeys cs
  | .tup vs => vecsKeys vs
  | _ => []
def vecsKeys : List AV → List Nat
  | [] => []
  | x :: r => vecKeys x ++ vecsKeys r
end
/-- The keys that are handed on, and those that are read as data. -/
def argKeys (mt : List Nat) : Nat → List AV → List Nat
  | _, [] => []
  | i, x :: r => (match mt.contains i with | true => avKeys x | false => ptrKeys x) ++ argKeys mt (i + 1) r
def argBor (mt : List Nat) : Nat → List AV → List Nat
  | _, [] => []
  | i, x :: r => (match mt.contains i with | true => [] | false => vecKeys x) ++ argBor mt (i + 1) r

structure CRes where
  out : Out
  es : List Ent
  ks : List Nat
def upO (ρ bs : List Nat) : Out → Out
  | .ret x => .ret (up ρ bs x)
  | .panic t x => .panic t x
def plainO : Out → Bool
  | .ret x => plainAV x
  | .panic _ x => plainD x
def plainL : List (Nat × Cont) → Bool
  | [] => true
  | (_, c) :: r => plainC c && plainL r
def frOk (m : Mem) (ρ : List Nat) : List Nat → Bool
  | [] => true
  | k :: r => (Mem.get m k).isSome && !ρ.contains k && frOk m ρ r
def callBack (m : Mem) (k0 : Nat) (ρ B : List Nat) : Option (Out × List (Nat × Cont)) → Option CRes
  | some (out, l2) =>
    if (decide (ρ.length ≤ l2.length) && frOk m ρ (List.range' (k0 + 1) (l2.length - ρ.length)) && (B.isEmpty || (plainO out && plainL l2))) = true then
      some ⟨upO (ρ ++ List.range' (k0 + 1) (l2.length - ρ.length)) (base m 0 ρ ++ base m 1 (List.range' (k0 + 1) (l2.length - ρ.length))) out,
        backL (ρ ++ List.range' (k0 + 1) (l2.length - ρ.length)) (base m 0 ρ ++ base m 1 (List.range' (k0 + 1) (l2.length - ρ.length))) 0 l2, ρ ++ B ++ List.range' (k0 + 1) (l2.length - ρ.length)⟩
    else none
  | none => none
/-- What is handed back anew is data, where there is no key for it. -/
def frzO (n0 : Nat) (l2 : List (Nat × Cont)) : Out → Out
  | .ret x => .ret (vw (mkM 0 l2) (List.range n0) (fun _ => true) (fun _ v => v) x).norm
  | .panic t x => .panic t x
def frzR (n0 : Nat) (b : Bool) : Option (Out × List (Nat × Cont)) → Option (Out × List (Nat × Cont))
  | some (out, l2) => if (b && decide (n0 < l2.length)) = true then some (frzO n0 l2 out, selL (mkM 0 l2) (List.range n0) (fun _ => true) (fun _ v => v) 0 (List.range n0)) else some (out, l2)
  | none => none
def vwArgs (m : Mem) (ρ B : List Nat) : List AV → List AV
  | [] => []
  | y :: r => (vw m ρ (fun k => B.contains k) nv0 y).norm :: vwArgs m ρ B r
def conts : List (Nat × Cont) → List Cont
  | [] => []
  | (_, c) :: r => c :: conts r
def callOp3 (cl : CallFn) (m : Mem) (k0 : Nat) (g : FuncId) (ys : List AV) (ρ B : List Nat) : Option CRes :=
  callBack m k0 ρ B (frzR ρ.length (Mem.get m (k0 + 1)).isNone (cl g (vwArgs m ρ B ys) (conts (selL m ρ (fun k => B.contains k) nv0 0 ρ))))
def callOp2 (cl : CallFn) (m : Mem) (k0 : Nat) (g : FuncId) (ys : List AV) (mt ρ : List Nat) : Option CRes :=
  callOp3 cl m k0 g ys ρ ((argBor mt 0 ys).filter fun k => !ρ.contains k)
def callOp (cl : CallFn) (m : Mem) (k0 : Nat) (g : FuncId) (ys : List AV) (mt : List Nat) : Option CRes :=
  callOp2 cl m k0 g ys mt (collect m 64 (argKeys mt 0 ys) [])

/- Operations. -/
def putC (S : St) (d : Option Nat) : Option CRes → Option (XE × St)
  | some ⟨.ret x, es, _⟩ => some (.normal, ({ S with mem := putAll S.mem es } : St).put d true x)
  | some ⟨.panic t x, es, _⟩ => some (.panic t x, { S with mem := putAll S.mem es })
  | none => none
def argVals (S : St) : List Operand → List AV
  | [] => []
  | x :: r => (S.opd x).2 :: argVals S r
def callVal (X : Ctx) (cl : CallFn) (S : St) (o : Oper) (args : List Operand) : Bool × AV → Option CRes
  | (true, .fn g caps) => if okAll S args = true then callOp cl S.mem (keyOf o) g (argVals S args ++ caps) (X.fp g).mut_ else none
  | _ => none
def panicVal (S : St) : Bool × AV → Option (XE × St)
  | (true, .ifc t d) => some (.panic t d, S)
  | _ => none
def specOp (X : Ctx) (cl : CallFn) (S : St) (o : Oper) : Option (XE × St) :=
  match o.op with
  | .call { callee := .value fv, args, .. } => putC S o.dst (callVal X cl S o args.toList (S.opd fv))
  | .panic x => panicVal S (S.opd x)
  | _ => none
def stepOp (X : Ctx) (cl : CallFn) (S : St) (o : Oper) : Res → Option (XE × St)
  | .val c x => if (opOk S o && c) = true then some (.normal, S.put o.dst true x) else none
  | .upd c x e => if (opOk S o && c) = true then some (.normal, ({ S with mem := Mem.set S.mem e } : St).put o.dst true x) else none
  | .no => specOp X cl S o
def guardOp (X : Ctx) (cl : CallFn) (S : St) (o : Oper) (b : Bool) : Res → Option (XE × St)
  | .val c x => if b = true → (opOk S o && c) = true then some (.normal, S.put o.dst b x) else none
  | r => if b = true then stepOp X cl S o r else some (.normal, S.put o.dst true .junk)
/-- What is known of a slot's truth is written down. -/
def St.cz (S : St) (d : Option Nat) (b : Bool) : St := S.put d true (.d (.bool b))
def dstAt (all : List Oper) (j : Nat) : Option Nat :=
  match all[j]? with
  | some o => o.dst
  | none => none
def gstep (X : Ctx) (cl : CallFn) (md : Bool) (all : List Oper) (S : St) (o : Oper) : Option (XE × St) :=
  match o.guard with
  | none => stepOp X cl S o (stepv X.P S o)
  | some (j, want) => match grd all S j with
    | some (true, .d (.bool t)) => match md with
      | false => guardOp X cl S o (t == want) (stepv X.P S o)
      | true => if (t == want) = true then stepOp X cl (S.cz (dstAt all j) want) o (stepv X.P (S.cz (dstAt all j) want) o) else some (.normal, (S.cz (dstAt all j) (!want)).put o.dst true .junk)
    | _ => none
def andThen (r : Option (XE × St)) (k : St → Option (XE × St)) : Option (XE × St) :=
  match r with
  | some (.normal, S) => k S
  | r => r
def runOps (X : Ctx) (cl : CallFn) (md : Bool) (all : List Oper) : List Oper → St → Option (XE × St)
  | [], S => some (.normal, S)
  | o :: r, S => andThen (gstep X cl md all S o) (runOps X cl md all r)

/- Regions that draw their order. -/
def dcall (S : St) (o : Oper) : Option CRes → Option (St × Stp)
  | some ⟨.ret x, es, ks⟩ => some ((⟨ks, es, true, x⟩ : Stp).app o S, ⟨ks, es, true, x⟩)
  | _ => none
def dspec (X : Ctx) (cl : CallFn) (S : St) (o : Oper) : Option (St × Stp) :=
  match o.op with
  | .call { callee := .value fv, args, .. } => dcall S o (callVal X cl S o args.toList (S.opd fv))
  | _ => none
def dstep (X : Ctx) (cl : CallFn) (S : St) (o : Oper) : Res → Option (St × Stp)
  | .val c x => if (opOk S o && c) = true then some (S.put o.dst true x, ⟨touch S o, [], true, x⟩) else none
  | .upd c x e => if (opOk S o && c && (touch S o).contains e.key) = true then some (({ S with mem := Mem.set S.mem e } : St).put o.dst true x, ⟨touch S o, [e], true, x⟩) else none
  | .no => dspec X cl S o
def dguard (X : Ctx) (cl : CallFn) (S : St) (o : Oper) (b : Bool) : Res → Option (St × Stp)
  | .val c x => if b = true → (opOk S o && c) = true then some (S.put o.dst b x, ⟨touch S o, [], b, x⟩) else none
  | r => if b = true then dstep X cl S o r else some (S.put o.dst true .junk, ⟨[], [], true, .junk⟩)
def dgstep (X : Ctx) (cl : CallFn) (md : Bool) (all : List Oper) (S : St) (o : Oper) : Option (St × Stp) :=
  match o.guard with
  | none => dstep X cl S o (stepv X.P S o)
  | some (j, want) => match grd all S j with
    | some (true, .d (.bool t)) => match md with
      | false => dguard X cl S o (t == want) (stepv X.P S o)
      | true => if (t == want) = true then dstep X cl (S.cz (dstAt all j) want) o (stepv X.P (S.cz (dstAt all j) want) o) else some ((S.cz (dstAt all j) (!want)).put o.dst true .junk, ⟨[], [], true, .junk⟩)
    | _ => none
def dThen (acc : List Stp) (r : Option (St × Stp)) (k : St → List Stp → Option (XE × St)) : Option (XE × St) :=
  match r with
  | some (S, p) => k S (p :: acc)
  | none => none
def drwOps (X : Ctx) (cl : CallFn) (md : Bool) (all : List Oper) : List Oper → St → List Stp → Option (XE × St)
  | [], S, acc => if ordOk all acc.reverse = true then some (.normal, S) else none
  | o :: r, S, acc => dThen acc (dgstep X cl md all S o) (drwOps X cl md all r)

/- Turns. -/
def St.adopt (S : St) (kb j k sz : Nat) : St :=
  match Mem.get S.mem kb, Mem.get S.mem k with
  | some ⟨_, vb, .box cs⟩, some ⟨_, v, _⟩ => match cs[j]? with
    | some (.lit (.slice none 0 0)) => if kb = k then S else { S with mem := Mem.set (Mem.set S.mem ⟨k, v + 1, .vec sz []⟩) ⟨kb, vb, .box (cs.set j (.vec k (v + 1) 0 0))⟩ }
    | _ => S
  | _, _ => S
def Gh.go (S : St) : Gh → St
  | .trim k => S.trim1 k
  | .freeze k => S.freeze k
  | .adopt kb j k sz => S.adopt kb j k sz
def ghs (S : St) : List Gh → St
  | [] => S
  | g :: r => ghs (g.go S) r

/- Code. -/
def mapN (k : St → St) : Option (XE × St) → Option (XE × St)
  | some (.normal, S) => some (.normal, k S)
  | r => r
def inBlk (id : Nat) : Option (XE × St) → Option (XE × St)
  | some (.exit id', S) => if id' = id then some (.normal, S) else some (.exit id', S)
  | r => r
def iter (f : St → Option (XE × St)) : Nat → St → Option (XE × St)
  | 0, _ => none
  | n + 1, S => andThen (f S) (iter f n)
def condB (a b : Option (XE × St)) : Bool × AV → Option (XE × St)
  | (true, .d (.bool t)) => if t = true then a else b
  | _ => none
def St.leave (X : Ctx) (f : FuncId) (id : Nat) (S : St) : St := ghs (S.prune (X.keep f id)) (X.gh f id)
def den (X : Ctx) (f : FuncId) (cl : CallFn) (n : Nat) : Code → St → Option (XE × St)
  | .skip, S => some (.normal, S)
  | .region id ops draw, S => match draw with
    | false => mapN (St.leave X f id) (runOps X cl (X.md f id) ops.toList ops.toList S)
    | true => mapN (St.leave X f id) (drwOps X cl (X.md f id) ops.toList ops.toList S [])
  | .seq a b, S => andThen (den X f cl n a S) (den X f cl n b)
  | .cond c a b, S => condB (den X f cl n a S) (den X f cl n b S) (S.opd c)
  | .block id c, S => inBlk id (den X f cl n c S)
  | .loop c, S => iter (den X f cl n c) n S
  | .exit id, S => some (.exit id, S)
  | .ret, S => some (.ret, S)
  | _, _ => none

/- Functions. -/
def fin (P : Program) (p : FPol) (n0 : Nat) (rs : List ResultVar) : Option (XE × St) → Option (Out × List (Nat × Cont))
  | some (.normal, S) => finish P p n0 rs S
  | some (.ret, S) => finish P p n0 rs S
  | some (.panic t x, S) => finPanic p n0 t x S
  | _ => none
def runFn (X : Ctx) (f : FuncId) (cl : CallFn) (n : Nat) (fn : Func) (c : Code) (args : List AV) (cs : List Cont) : Option (Out × List (Nat × Cont)) :=
  if (decide (args.length ≤ fn.ntmps) && decide (cs.length ≤ 100) && (X.fp f).sites.all (fun k => decide (100 ≤ k)) && decide (X.fp f).sites.Nodup) = true then
    fin X.P (X.fp f) cs.length fn.results.toList (den X f cl n c (entry fn.ntmps X.gl args cs (X.fp f).sites))
  else none
/-- What an empty list gives, be it nothing or not. -/
def emptyVec : Option (Out × List (Nat × Cont)) → Option Nat
  | some (.ret (.vec 0 0 0 0), [(0, .vec sz [])]) => some sz
  | _ => none
def splitRun (r1 r2 : Option (Out × List (Nat × Cont))) : Option (Out × List (Nat × Cont)) :=
  match emptyVec r1, emptyVec r2 with
  | some a, some b => if a = b then r1 else none
  | _, _ => none
def runSplit (run : List AV → Option (Out × List (Nat × Cont))) (args : List AV) : Bool → Option (Out × List (Nat × Cont))
  | true => match args with
    | .d (.list []) :: r => splitRun (run (.lit (.slice none 0 0) :: r)) (run (.nn :: r))
    | args => run args
  | false => run args
def callN (X : Ctx) : Nat → CallFn
  | 0, _, _, _ => none
  | n + 1, f, args, cs => match X.P.funcs[f]? with
    | some fn => match fn.body with
      | some c => runSplit (fun args => runFn X f (callN X n) n fn c args cs) args (X.fp f).split
      | none => none
    | none => none
end Go.Am
