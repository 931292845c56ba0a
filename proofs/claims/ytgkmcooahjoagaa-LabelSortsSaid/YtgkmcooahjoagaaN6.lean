/- LabelJoins returns true, whatever the two lists of texts. Conditions: none. -/
import Derived.Test.YtgkmcooahjoagaaN5
namespace Go.Proofs.Ytgkmcooahjoagaa
open Go.RowKit

theorem map_text (xs : List ByteArray) : (xs.map bytesOf).map encT = xs.map .string := by rw [List.map_map]; rfl
theorem text_sizes {xs : List ByteArray} (h : ∀ s ∈ xs, s.size ≤ maxLen) : ∀ x ∈ xs.map bytesOf, x.length ≤ maxLen := fun x hx => by
  obtain ⟨s, hs, rfl⟩ := List.mem_map.1 hx
  exact h s hs
set_option maxRecDepth 200000 in
set_option maxHeartbeats 1000000 in
theorem labelJoins_any (xs : List ByteArray) (A : Option Addr) (n c : Nat) (ys : List ByteArray) (B : Option Addr) (m d : Nat) (w : World) (hn : xs.length = n) (_ : n ≤ c) (_ : c ≤ maxLen) (hs : ∀ s ∈ xs, s.size ≤ maxLen) (h : RowAt w A (xs.map .string))
    (hm : ys.length = m) (_ : m ≤ d) (_ : d ≤ maxLen) (gs : ∀ s ∈ ys, s.size ≤ maxLen) (g : RowAt w B (ys.map .string)) :
    Calls Try.prog 4 #[.slice A n c, .slice B m d] w fun e w' => e = .returned (.bool true) ∧ Below w.heap.size w w' := by
  by_cases h10 : n ≤ 10
  · by_cases g10 : m ≤ 10
    · exact joins_core (xs.map bytesOf) (ys.map bytesOf) A B n m c d w (by rw [List.length_map, hn]) (by rw [List.length_map, hm]) h10 g10 (text_sizes hs) (text_sizes gs) (by rw [map_text]; exact h) (by rw [map_text]; exact g)
    · have HK := Lib.hid works_any
      clear h g hs gs
      go_enter Try.func4, Try.ntmps4
      go_wp2_with fail
      refine (HK.out _).mono ?_
      rintro e w1 ⟨rfl, hb1⟩
      go_wp2_with fail
      go_ret
      exact ⟨rfl, hb1⟩
  · have HK := Lib.hid works_any
    clear h g hs gs
    go_enter Try.func4, Try.ntmps4
    go_wp2_with fail
    refine (HK.out _).mono ?_
    rintro e w1 ⟨rfl, hb1⟩
    go_wp2_with fail
    go_ret
    exact ⟨rfl, hb1⟩
end Go.Proofs.Ytgkmcooahjoagaa
