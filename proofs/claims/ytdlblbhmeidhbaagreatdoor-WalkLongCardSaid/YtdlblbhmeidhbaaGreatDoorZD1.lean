/- The document's answers for paths: Texts, Split, Join, Parent, Within. Conditions: none. -/
import Derived.Test.YtdlblbhmeidhbaaGreatDoorZP1
import Derived.Laws.AppendOwn
namespace Go.Proofs.YtdlblbhmeidhbaaGreatDoor
open Go.RowKit
attribute [local go_sem] Oper.semAt_some

theorem flat_textP {xs : List (List UInt8)} (h : xs ≠ []) : xs.flatMap (fun x => 47 :: x) = textP xs := by
  induction xs with
  | nil => exact absurd rfl h
  | cons x xs ih =>
    by_cases hx : xs = []
    · subst hx; simp [textP, joinL]
    · rw [List.flatMap_cons, ih hx, textP, textP, joinL_cons _ _ hx]; simp
theorem flat_take_succ (xs : List ByteArray) (k : Nat) (h : k < xs.length) : (xs.take (k + 1)).flatMap (fun x => 47 :: bytesOf x) = (xs.take k).flatMap (fun x => 47 :: bytesOf x) ++ 47 :: bytesOf xs[k] := by
  rw [List.take_succ_eq_append_getElem h]
  simp only [List.flatMap_append, List.flatMap_cons, List.flatMap_nil, List.append_nil]

end Go.Proofs.YtdlblbhmeidhbaaGreatDoor
