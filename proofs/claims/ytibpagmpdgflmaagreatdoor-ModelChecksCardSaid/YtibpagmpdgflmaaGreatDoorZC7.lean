/- The iterator path.counts. Conditions: none. -/
import Derived.Test.YtibpagmpdgflmaaGreatDoorZP1
import Derived.Test.YtibpagmpdgflmaaGreatDoorZK7
namespace Go.Proofs.YtibpagmpdgflmaaGreatDoor
open Go.RowKit Go.Shelf
attribute [local go_sem] Oper.semAt_some

theorem range_prefix {k n : Nat} (h : k < n + 1) : List.range k ++ [k] <+: List.range (n + 1) := by
  rw [← List.range_succ]
  have : List.range (k + 1) = (List.range (n + 1)).take (k + 1) := by
    rw [List.take_range, Nat.min_eq_left (by omega)]
  rw [this]; exact List.take_prefix _ _
theorem range_prefix_inv {pre : List Nat} {x n : Nat} (h : pre ++ [x] <+: List.range n) : pre = List.range x ∧ x < n := by
  obtain ⟨t, ht⟩ := h
  have hl := congrArg List.length ht
  simp at hl
  have hx : (List.range n)[pre.length]? = some x := by rw [← ht]; simp
  rw [List.getElem?_range (by omega)] at hx
  have hx' : pre.length = x := by simpa using hx
  refine ⟨?_, by omega⟩
  have := congrArg (List.take pre.length) ht
  rw [List.append_assoc, List.take_left, List.take_range, Nat.min_eq_left (by omega), hx'] at this
  exact this

end Go.Proofs.YtibpagmpdgflmaaGreatDoor
