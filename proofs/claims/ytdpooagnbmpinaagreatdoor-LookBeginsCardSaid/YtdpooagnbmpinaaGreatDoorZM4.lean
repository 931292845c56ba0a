/- label.Sorted, told by one function of lists. Conditions: none. -/
import Derived.Test.YtdpooagnbmpinaaGreatDoorZM2
import Derived.Test.YtdpooagnbmpinaaGreatDoorZPB
namespace Go.Proofs.YtdpooagnbmpinaaGreatDoor
open Go.RowKit

theorem sortedIs (xs : List (List UInt8)) (A : Option Addr) (n c : Nat) (w : World) (hn : xs.length = n) (hm : n ≤ 100000) (hs : ∀ x ∈ xs, x.length ≤ maxLen) (h : RowAt w A (xs.map encT)) (hall : xs.all rightB = true) (m : Nat) (hl : (sortL xs).length = m) :
    Calls Tryz.prog 63 #[.slice A n c] w fun e w' => ∃ A' c', e = .returned (.tuple #[.slice A' m c', .int .i64 0]) ∧ m ≤ c' ∧ c' ≤ maxLen ∧ Hid (RowAt w' A' ((sortL xs).map encT)) ∧ Below w.heap.size w w' := by
  refine (labelSorted_any xs A n c w hn hm hs h).mono ?_
  rintro e w' ⟨hb, ⟨h0, _⟩ | ⟨_, v, ys, rfl, hown, hr, hmem⟩⟩
  · rw [hall] at h0; cases h0
  · obtain rfl := sortL_is hr hmem
    rw [hl] at hown
    obtain ⟨A', c', rfl, h1, h2⟩ := owns_slice hown
    exact ⟨A', c', rfl, h1, h2, row_of_own hown, hb⟩
theorem sortedNot (xs : List (List UInt8)) (A : Option Addr) (n c : Nat) (w : World) (hn : xs.length = n) (hm : n ≤ 100000) (hs : ∀ x ∈ xs, x.length ≤ maxLen) (h : RowAt w A (xs.map encT)) (hall : xs.all rightB = false) :
    Calls Tryz.prog 63 #[.slice A n c] w fun e w' => e = .returned (.tuple #[.slice none 0 0, .int .i64 160]) ∧ Below w.heap.size w w' := by
  refine (labelSorted_any xs A n c w hn hm hs h).mono ?_
  rintro e w' ⟨hb, ⟨_, h0⟩ | ⟨h0, _⟩⟩
  · exact ⟨h0, hb⟩
  · rw [hall] at h0; cases h0
theorem sortedAny (xs : List (List UInt8)) (A : Option Addr) (n c : Nat) (w : World) (hn : xs.length = n) (hm : n ≤ 100000) (hs : ∀ x ∈ xs, x.length ≤ maxLen) (h : RowAt w A (xs.map encT)) (b : Bool) (hall : xs.all rightB = b) :
    Calls Tryz.prog 63 #[.slice A n c] w fun e w' => ∃ v, e = .returned (.tuple #[v, .int .i64 (errB b)]) ∧ Below w.heap.size w w' := by
  refine (labelSorted_any xs A n c w hn hm hs h).mono ?_
  rintro e w' ⟨hb, ⟨h0, rfl⟩ | ⟨h0, v, ys, rfl, _⟩⟩
  · rw [hall] at h0; subst h0; exact ⟨_, rfl, hb⟩
  · rw [hall] at h0; subst h0; exact ⟨_, rfl, hb⟩
end Go.Proofs.YtdpooagnbmpinaaGreatDoor
