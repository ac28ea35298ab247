/-
  The closure of Right and slices.IndexFunc: what a call of each gives.
-/
import Derived.Test.YtlbbjmbfclmmdaaDoorE1
namespace Go.Am
open Go Go.Proofs
set_option maxRecDepth 20000
def Scope.cells (s : Scope) : List D := [.int .i64 s.channels, .int .i64 s.before, .int .i64 s.after, .int .i64 s.channel, .int .i64 s.level, .bool s.up, .list (s.rows.map ints), .int .i64 s.seen, .int .i64 s.moment, .bool s.done]

theorem right1_run (s : Scope) (r : List Int) : callT ctx 19 [.d (ints r), .ptr 0 0 0] [.box (s.cells.map .d)] = some (.ret (.d (.bool ((r.length : Int) != s.channels))), [(0, .box (s.cells.map .d))]) := by
  rw [run19 (by simp)]
  simp [Tryd.f19, ints, Scope.cells]


/-- The first element with a property. -/
def firstIdx {α : Type} (p : α → Bool) : List α → Nat → Option Nat
  | [], _ => none
  | x :: r, i => if p x = true then some i else firstIdx p r (i + 1)

theorem index_loop {α : Type} (enc : α → D) (p : α → Bool) (g : FuncId) (c : List D) (hm : (ctx.fp g).mut_ = []) (hsz : ∀ x, (enc x).size = 1) (hce : ∀ x, (enc x).cells = [enc x])
    (hc : ∀ x, callT ctx g [.d (enc x), .ptr 0 0 0] [.box (c.map .d)] = some (.ret (.d (.bool (p x))), [(0, .box (c.map .d))])) :
    ∀ (rest pre : List α), (pre ++ rest).length < 1000000 → ∀ k : Kt,
      denK ctx 25 (.loop (Code.at (codeOf Tryd.f25) [1, 0, 1, 0, 0])) ⟨19, gl0, [(0, true, .d (.list ((pre ++ rest).map enc))), (1, true, .fn g [.ptr 0 0 0]), (7, true, .d (.int .i64 (pre ++ rest).length)), (8, true, .d (.int .i64 pre.length))], [⟨0, 0, .box (c.map .d)⟩]⟩ k =
        match firstIdx p rest pre.length with
        | some i => k .ret ⟨19, gl0, [(4, true, .d (.int .i64 i))], [⟨0, 0, .box (c.map .d)⟩]⟩
        | none => k (.exit 0) ⟨19, gl0, [(0, true, .d (.list ((pre ++ rest).map enc))), (1, true, .fn g [.ptr 0 0 0]), (7, true, .d (.int .i64 (pre ++ rest).length)), (8, true, .d (.int .i64 (pre ++ rest).length)), (9, true, .d (.bool false))], [⟨0, 0, .box (c.map .d)⟩]⟩
  | [], pre, hl, k => by
    rw [denK_loop]
    simp [Tryd.f25, firstIdx]
  | x :: rest, pre, hl, k => by
    have ih := index_loop enc p g c hm hsz hce hc rest (pre ++ [x])
    rw [denK_loop]
    simp [Tryd.f25, firstIdx] at hl ih ⊢
    have h1 : (pre.length : Int) < pre.length + (rest.length + 1) := by omega
    have h2 : IntKind.i64.wrap ((pre.length : Int) + 1) = pre.length + 1 := IntWalk.i64_in _ (by omega)
    simp [hm, hsz, hce, hc, h1, h2, ih hl]
    cases p x <;> simp

theorem index_run {α : Type} (enc : α → D) (p : α → Bool) (g : FuncId) (c : List D) (hm : (ctx.fp g).mut_ = []) (hsz : ∀ x, (enc x).size = 1) (hce : ∀ x, (enc x).cells = [enc x])
    (hc : ∀ x, callT ctx g [.d (enc x), .ptr 0 0 0] [.box (c.map .d)] = some (.ret (.d (.bool (p x))), [(0, .box (c.map .d))])) (xs : List α) (hl : xs.length < 1000000) :
    callT ctx 25 [.d (.list (xs.map enc)), .fn g [.ptr 0 0 0]] [.box (c.map .d)] = some (.ret (.d (.int .i64 (match firstIdx p xs 0 with | some i => (i : Int) | none => -1))), [(0, .box (c.map .d))]) := by
  have h := index_loop enc p g c hm hsz hce hc xs [] (by simpa using hl)
  rw [run25 (by simp)]
  simp [Tryd.f25] at h ⊢
  rw [h]
  split <;> simp
end Go.Am
