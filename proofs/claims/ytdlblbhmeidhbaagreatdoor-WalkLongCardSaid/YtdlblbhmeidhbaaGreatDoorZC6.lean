/- The contract of path.Within. Conditions: none. -/
import Derived.Test.YtdlblbhmeidhbaaGreatDoorZC5
namespace Go.Proofs.YtdlblbhmeidhbaaGreatDoor
open Go.RowKit

/-- Is a path within another? -/
def withinN (a b : List (List UInt8)) : Bool := decide (b.length < a.length) && decide (a.take b.length = b)
def withinP (s t : List UInt8) : Bool × Int :=
  if (readP s).1 ≠ 0 then (false, (readP s).1) else if (readP t).1 ≠ 0 then (false, (readP t).1) else (withinN (readP s).2 (readP t).2, 0)
def WithinPost (s t : ByteArray) (w : World) (e : Ending) (w' : World) : Prop :=
  e = .returned (.tuple #[.bool (withinP (bytesOf s) (bytesOf t)).1, .int .i64 (withinP (bytesOf s) (bytesOf t)).2]) ∧ Below w.heap.size w w'

theorem readP_err {s : List UInt8} (h : (readP s).1 ≠ 0) : (readP s).2 = [] := by
  rcases readP_cases s with ⟨e, _⟩ | ⟨_, e⟩
  · exact absurd e h
  · exact e

end Go.Proofs.YtdlblbhmeidhbaaGreatDoor
