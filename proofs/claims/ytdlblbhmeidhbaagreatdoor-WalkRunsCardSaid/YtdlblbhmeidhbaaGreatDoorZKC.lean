/- An argument of words, opened. Conditions: none. -/
import Derived.Test.YtdlblbhmeidhbaaGreatDoorZK6
import Derived.Test.YtdlblbhmeidhbaaGreatDoorZV3
namespace Go.Proofs.YtdlblbhmeidhbaaGreatDoor
open Go.RowKit Go.WideShapes Go.ChangeShapes Go.ChangeMaps

theorem Tryz.underlyingWords : Tryz.prog.underlying 24 = some (.slice 23) := by kernel_rfl
theorem Tryz.underlyingWord : Tryz.prog.underlying 23 = some (.int .u64) := by kernel_rfl
theorem Tryz.cellsWord : Tryz.prog.cellsOf 23 = 1 := by kernel_rfl
set_option maxRecDepth 100000 in
/-- What a slice of words reads as. -/
theorem open_words {H : Type} {enc : TypeId × Value → H} {W : World} {b0 : Nat} {v : Value} {d : DataW H} {p : List MemPlace} (hval : Value.okWide Tryz.prog W .any b0 24 v)
    (h : DataW.Trod enc Tryz.prog W 0 (fun _ => true) true 24 v d p) (hlt : ∀ x ∈ p, x.block < W.heap.size) :
    ∃ (A : Option Addr) (n c : Nat) (xs : List Nat), v = .slice A n c ∧ xs.length = n ∧ n ≤ c ∧ c ≤ maxLen ∧ (∀ x ∈ xs, x < 18446744073709551616) ∧ RowAt W A (xs.map encW) := by
  obtain ⟨a0, len, cap, rfl⟩ := okWide_slice Tryz.underlyingWords hval
  obtain ⟨fuel, hf⟩ := h
  rcases open_ints Tryz.underlyingWords Tryz.underlyingWord Tryz.cellsWord hf with ⟨hcs, hx⟩ | ⟨a, len', cap', zs, hcs, _, hl, hm, hz, hx, hcell, hws⟩
  · simp [Value.cells] at hcs
    obtain ⟨rfl, rfl, rfl⟩ := hcs
    exact ⟨none, 0, 0, [], rfl, rfl, Nat.le_refl _, by simp [maxLen], by simp, RowAt.nil⟩
  · simp [Value.cells] at hcs
    obtain ⟨rfl, rfl, rfl⟩ := hcs
    simp only [if_true] at hz
    have hb : ∀ z ∈ zs, 0 ≤ z ∧ z ≤ 18446744073709551615 := fun z hz => bounds_u64 (hws z hz)
    refine ⟨some a, len, cap, (zs.take len).map Int.toNat, rfl, by rw [List.length_map, List.length_take]; omega, hl, hm, fun x hx => ?_, fun hpos => ?_⟩
    · obtain ⟨z, hz, rfl⟩ := List.mem_map.1 hx
      have := hb z (List.mem_of_mem_take hz)
      omega
    · rw [List.length_map, List.length_map, List.length_take] at hpos
      have hspot0 := hcell 0 (by omega)
      obtain ⟨b, off, spot⟩ := a
      have hspot : spot = none := by simpa [Addr.add] using World.cell?_spot hspot0
      subst hspot
      simp only [Prod.mk.injEq] at hx
      obtain ⟨_, rfl⟩ := hx
      have hbW : b < W.heap.size := hlt (.cell b off) (MemPlace.mem_row.2 ⟨0, by omega, by simp⟩)
      refine ⟨b, off, rfl, hbW, fun k u hu => ?_⟩
      rw [List.getElem?_map, List.getElem?_map, List.getElem?_take] at hu
      by_cases hk : k < len
      · rw [if_pos hk, List.getElem?_eq_getElem (by omega)] at hu
        have h1 := hcell k (by omega)
        rw [add_plain] at h1
        rw [h1]
        have h2 := hb zs[k] (List.getElem_mem _)
        rw [← Option.some.inj hu, List.getD_eq_getElem?_getD, List.getElem?_eq_getElem (by omega)]
        show some (Value.int .u64 zs[k]) = some (.int .u64 ((zs[k].toNat : Nat) : Int))
        rw [Int.toNat_of_nonneg h2.1]
      · rw [if_neg hk] at hu; cases hu
end Go.Proofs.YtdlblbhmeidhbaaGreatDoor
