/- The contract of word.Bytes at one word. Conditions: none. -/
import Derived.Test.YtdlblbhmeidhbaaGreatDoorZQ1
namespace Go.Proofs.YtdlblbhmeidhbaaGreatDoor
open Go.RowKit

/-- A word's bytes. -/
def byteOf (a i : Nat) : UInt8 := UInt8.ofNat (a / 2 ^ (8 * i))
def byte8 (a : Nat) : List UInt8 := (List.range 8).map (byteOf a)
theorem byte8_length (a : Nat) : (byte8 a).length = 8 := by simp [byte8]
theorem byte8_take (a k : Nat) (h : k < 8) : (byte8 a).take (k + 1) = (byte8 a).take k ++ [byteOf a k] := by
  rw [byte8, ← List.map_take, ← List.map_take, List.take_range, List.take_range, Nat.min_eq_left (by omega), Nat.min_eq_left (by omega), List.range_succ, List.map_append]; rfl

end Go.Proofs.YtdlblbhmeidhbaaGreatDoor
