/- The iterator slices.Chunk at bytes, eight at a time. Conditions: none. -/
import Derived.Test.YtibpagmpdgflmaaGreatDoorZW1
import Derived.Test.YtibpagmpdgflmaaGreatDoorZK7
namespace Go.Proofs.YtibpagmpdgflmaaGreatDoor
open Go.RowKit Go.Shelf
attribute [local go_sem] Oper.semAt_some

theorem range_prefix' {k n : Nat} (h : k < n) : List.range k ++ [k] <+: List.range n := by
  rw [← List.range_succ]
  have : List.range (k + 1) = (List.range n).take (k + 1) := by
    rw [List.take_range, Nat.min_eq_left (by omega)]
  rw [this]; exact List.take_prefix _ _
/-- The k-th eight of a row's bytes. -/
def encC (b off n : Nat) (k : Nat) : Array Value := #[.slice (some ⟨b, off + 8 * k, none⟩) (min 8 (n - 8 * k)) (min 8 (n - 8 * k))]
def ChunkQ (Bs Bn b off n c : Nat) (W : World) : Prop := W.cell? ⟨Bs, 0, none⟩ = some (.slice (some ⟨b, off, none⟩) n c) ∧ W.cell? ⟨Bn, 0, none⟩ = some (.int .i64 8)

end Go.Proofs.YtibpagmpdgflmaaGreatDoor
