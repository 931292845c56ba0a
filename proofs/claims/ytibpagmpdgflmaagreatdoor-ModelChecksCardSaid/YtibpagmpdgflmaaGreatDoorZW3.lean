/- The contracts of slices.Clone and slices.Reverse at bytes. Conditions: none. -/
import Derived.Test.YtibpagmpdgflmaaGreatDoorZV3
import Derived.Test.YtibpagmpdgflmaaGreatDoorZW2
import Derived.Test.YtibpagmpdgflmaaGreatDoorShelf
import Derived.Lib.OwnBridge
import Derived.RangeFuncBox
namespace Go.Proofs.YtibpagmpdgflmaaGreatDoor
open Go.RowKit Go.Shelf

theorem Tryz.infoU8 : (Tryz.prog.info? 5).map (fun i => (i.zero, i.size, i.bytes)) = some (some (.int .u8 0), 1, 1) := by kernel_rfl
theorem plain_add (b off j : Nat) : (⟨b, off, none⟩ : Addr).add j = ⟨b, off + j, none⟩ := by unfold Addr.add; split <;> simp_all

def ClonePost (xs : List UInt8) (n : Nat) (w : World) (e : Ending) (w' : World) : Prop :=
  ∃ g cap, e = .returned (.slice (some ⟨g, 0, none⟩) n cap) ∧ w'.ownsRow w.heap.size 5 1 (.slice (some ⟨g, 0, none⟩) n cap) n (xs.map encB) ∧ Below w.heap.size w w'
theorem clone_any (xs : List UInt8) (b off n c : Nat) (w : World) (hl : xs.length = n) (h0 : 0 < n) (hn : n ≤ 100000) (h : RowAt w (some ⟨b, off, none⟩) (xs.map encB)) :
    Calls Tryz.prog 83 #[.slice (some ⟨b, off, none⟩) n c] w (ClonePost xs n w) := by
  obtain ⟨i0, hi, hz0, hz1, hz2⟩ := info_parts Tryz.infoU8
  have hc := AnyE.slices_Clone Tryz.cloneByte i0 (.int .u8 0) 1 1 hi hz0 hz1 hz2 rfl (by decide) Tryz.sizeOf5 b off n c (xs.map encB) w (by rw [List.length_map, hl, Nat.mul_one]) (by unfold maxLen; omega) (by omega)
    (fun j u hu => by
      obtain ⟨b', off', e, _, hc⟩ := h.get hu
      cases e; exact hc)
    (fun u hu => by obtain ⟨x, _, rfl⟩ := List.mem_map.1 hu; rfl)
  change Calls Tryz.prog 83 _ _ _ at hc
  refine hc.mono ?_
  rintro e w' ⟨v, rfl, hown, _, hb⟩
  obtain ⟨g, cap, rfl, _⟩ := hown.form h0
  exact ⟨g, cap, rfl, hown, hb⟩

theorem grownBy_putRow {α : Type} [Inhabited α] (enc : α → Value) (w : World) (q g : Nat) (d : Array α) : w.grownBy (Sort.putRow enc (Sort.ahead w q) g 0 d) (some g) :=
  ⟨rfl, rfl, rfl, by simp [Sort.putRow, Sort.mapBlock, Sort.ahead], fun i _ hne => by
    have : g ≠ i := fun e => hne (by rw [e])
    simp [Sort.putRow, Sort.mapBlock, Sort.ahead, Array.getElem?_modify, this]⟩
end Go.Proofs.YtibpagmpdgflmaaGreatDoor
