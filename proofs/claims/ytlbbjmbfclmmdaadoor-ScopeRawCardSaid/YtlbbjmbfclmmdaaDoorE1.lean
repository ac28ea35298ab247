/-
  The scope functions asked and crosses: what a call of each gives, for every scope.
-/
import Derived.Test.YtlbbjmbfclmmdaaDoorPol
namespace Go.Am
open Go Go.Proofs
set_option maxRecDepth 20000
structure Scope where
  channels : Int
  before : Int
  after : Int
  channel : Int
  level : Int
  up : Bool
  rows : List (List Int)
  seen : Int
  moment : Int
  done : Bool
@[simp] def ints (l : List Int) : D := .list (l.map fun n => .int .i64 n)
@[simp] def Scope.enc (s : Scope) : D := .agg [.int .i64 s.channels, .int .i64 s.before, .int .i64 s.after, .int .i64 s.channel, .int .i64 s.level, .bool s.up, .list (s.rows.map ints), .int .i64 s.seen, .int .i64 s.moment, .bool s.done]
def asked (s : Scope) : Bool :=
  decide (1 ≤ s.channels) && decide (s.channels ≤ 16) && decide (0 ≤ s.before) && decide (s.before ≤ 500) && decide (1 ≤ s.after) && decide (s.after ≤ 500) && decide (0 ≤ s.channel) && decide (s.channel < s.channels)
def crosses (s : Scope) (was is : Int) : Bool := if s.up then decide (was < s.level) && decide (s.level ≤ is) else decide (s.level < was) && decide (is ≤ s.level)

theorem asked_run (s : Scope) : callT ctx 17 [.d s.enc] [] = some (.ret (.d (.bool (asked s))), []) := by
  rw [run17 (by simp)]
  simp [Tryd.f17, asked]
theorem crosses_run (s : Scope) (was is : Int) : callT ctx 21 [.d s.enc, .d (.int .i64 was), .d (.int .i64 is)] [] = some (.ret (.d (.bool (crosses s was is))), []) := by
  rw [run21 (by simp)]
  simp [Tryd.f21, crosses]
  split <;> rfl
end Go.Am
