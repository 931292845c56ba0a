/- An argument of texts, opened. Conditions: none. -/
import Derived.Test.YtibpagmpdgflmaaGreatDoorK4
import Derived.Test.YtibpagmpdgflmaaGreatDoorZK7
import Derived.SliceStrings
import Derived.Carry
namespace Go.Proofs.YtibpagmpdgflmaaGreatDoor
open Go.RowKit Go.WideShapes Go.ChangeShapes Go.ChangeMaps

theorem Tryz.laidOut : laidOutB Tryz.prog = true := by kernel_rfl
theorem Tryz.underlyingList : Tryz.prog.underlying 24 = some (.slice 9) := by kernel_rfl
theorem Tryz.cellsString : Tryz.prog.cellsOf 9 = 1 := by kernel_rfl
set_option maxRecDepth 100000 in
/-- What a slice of texts reads as. -/
theorem open_list {H : Type} {enc : TypeId × Value → H} {W : World} {b0 : Nat} {v : Value} {d : DataW H} {p : List MemPlace} (hval : Value.okWide Tryz.prog W .any b0 24 v)
    (h : DataW.Trod enc Tryz.prog W 0 (fun _ => true) true 24 v d p) (hlt : ∀ x ∈ p, x.block < W.heap.size) :
    ∃ (A : Option Addr) (n c : Nat) (xs : List ByteArray), v = .slice A n c ∧ xs.length = n ∧ n ≤ c ∧ c ≤ maxLen ∧ (∀ s ∈ xs, s.size ≤ maxLen) ∧ RowAt W A (xs.map .string) := by
  obtain ⟨a0, len, cap, rfl⟩ := okWide_slice Tryz.underlyingList hval
  obtain ⟨fuel, hf⟩ := h
  rcases open_strings Tryz.underlyingList Tryz.underlyingString Tryz.cellsString hf with ⟨hcs, hx⟩ | ⟨a, len', cap', ss, hcs, _, hl, hm, hz, hx, hcell, hws⟩
  · simp [Value.cells] at hcs
    obtain ⟨rfl, rfl, rfl⟩ := hcs
    exact ⟨none, 0, 0, [], rfl, rfl, Nat.le_refl _, by simp [maxLen], by simp, RowAt.nil⟩
  · simp [Value.cells] at hcs
    obtain ⟨rfl, rfl, rfl⟩ := hcs
    simp only [if_true] at hz
    refine ⟨some a, len, cap, ss.take len, rfl, by rw [List.length_take]; omega, hl, hm, fun s hs => hws s (List.mem_of_mem_take hs), fun hpos => ?_⟩
    rw [List.length_map, List.length_take] at hpos
    have hspot0 := hcell 0 (by omega)
    obtain ⟨b, off, spot⟩ := a
    have hspot : spot = none := by simpa [Addr.add] using World.cell?_spot hspot0
    subst hspot
    simp only [Prod.mk.injEq] at hx
    obtain ⟨_, rfl⟩ := hx
    have hbW : b < W.heap.size := hlt (.cell b off) (MemPlace.mem_row.2 ⟨0, by omega, by simp⟩)
    refine ⟨b, off, rfl, hbW, fun k u hu => ?_⟩
    rw [List.getElem?_map, List.getElem?_take] at hu
    by_cases hk : k < len
    · rw [if_pos hk, List.getElem?_eq_getElem (by omega)] at hu
      have h1 := hcell k (by omega)
      rw [add_plain] at h1
      rw [h1]
      rw [← Option.some.inj hu, List.getD_eq_getElem?_getD, List.getElem?_eq_getElem (by omega)]; rfl
    · rw [if_neg hk] at hu; cases hu
end Go.Proofs.YtibpagmpdgflmaaGreatDoor
