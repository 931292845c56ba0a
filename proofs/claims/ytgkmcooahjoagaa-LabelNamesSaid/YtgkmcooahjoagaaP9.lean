/- Plain: a name's words tell the name. No program in sight. Conditions: none. -/
import Derived.Test.YtgkmcooahjoagaaW7
namespace Go.Proofs.Ytgkmcooahjoagaa
open Go.RowKit

theorem byteOf_leN : ∀ (l : List UInt8) (i : Nat), byteOf (leN l) i = l.getD i 0
  | [], i => by
    simp [leN, byteOf]
  | b :: l, 0 => by
    rw [leN, byteOf]
    apply UInt8.toNat_inj.1
    have := b.toNat_lt
    simp
  | b :: l, i + 1 => by
    have ih := byteOf_leN l i
    have e : leN (b :: l) / 2 ^ (8 * (i + 1)) = leN l / 2 ^ (8 * i) := by
      rw [leN, show 8 * (i + 1) = 8 + 8 * i by omega, Nat.pow_add, ← Nat.div_div_eq_div_mul]
      congr 1
      have := b.toNat_lt
      omega
    rw [byteOf, e]
    rw [byteOf] at ih
    rw [ih]
    simp
theorem bytes40_eq (f : Nat → Nat) : bytes40 f = (List.range 40).map fun j => byteOf (f (j / 8)) (j % 8) := rfl
theorem bytes40_congr {f g : Nat → Nat} (h : ∀ k, k < 5 → f k = g k) : bytes40 f = bytes40 g := by
  rw [bytes40_eq, bytes40_eq]
  apply List.map_congr_left
  intro j hj
  rw [List.mem_range] at hj
  rw [h _ (by omega)]
theorem wordAt_byte (s : List UInt8) (j : Nat) : byteOf (wordAt s (j / 8)) (j % 8) = s.getD j 0 := by
  rw [wordAt, byteOf_leN, List.getD_eq_getElem?_getD, List.getD_eq_getElem?_getD, List.getElem?_take, if_pos (by omega), List.getElem?_drop]
  congr 2
  omega
theorem bytes40_take {s : List UInt8} (h : s.length ≤ 40) : (bytes40 (wordAt s)).take s.length = s := by
  apply List.ext_getElem?
  intro j
  rw [List.getElem?_take]
  by_cases hj : j < s.length
  · rw [if_pos hj, bytes40_eq, List.getElem?_map, List.getElem?_range (by omega)]
    show some (byteOf (wordAt s (j / 8)) (j % 8)) = _
    rw [wordAt_byte, List.getD_eq_getElem?_getD, List.getElem?_eq_getElem hj]; rfl
  · rw [if_neg hj, List.getElem?_eq_none (by omega)]
theorem eqF_self (f : Nat → Nat) : eqF f f = true := (eqF_iff f f).2 fun _ _ => rfl
theorem readL_words {s : List UInt8} (h : rightB s = true) : readL (wordAt s) s.length = (s, 0) := by
  obtain ⟨h1, h40⟩ := rightB_size h
  rw [readL, Int.toNat_natCast, bytes40_take h40, if_pos ⟨by omega, by omega, by rw [isName, h, eqF_self]; rfl⟩]
theorem words_name {s t : List UInt8} (hs : rightB s = true) (ht : rightB t = true) : (eqF (wordAt s) (wordAt t) && decide (s.length = t.length)) = decide (s = t) := by
  obtain ⟨_, hs40⟩ := rightB_size hs
  obtain ⟨_, ht40⟩ := rightB_size ht
  rw [Bool.eq_iff_iff, Bool.and_eq_true, decide_eq_true_iff, decide_eq_true_iff]
  constructor
  · rintro ⟨h1, h2⟩
    have := bytes40_congr ((eqF_iff _ _).1 h1)
    rw [← bytes40_take hs40, this, h2, bytes40_take ht40]
  · rintro rfl
    exact ⟨eqF_self _, rfl⟩
theorem same_words {s t : List UInt8} (hs : rightB s = true) : sameL t (wordAt s) s.length = decide (s = t) := by
  rw [sameL, readL_words hs]
  show (true && (s == t)) = _
  by_cases h : s = t <;> simp [h]
theorem wordsP_right {s : List UInt8} (h : rightB s = true) : wordsP s = wordAt s := by funext k; rw [wordsP, h]; rfl
theorem wordsP_wrong {s : List UInt8} (h : rightB s = false) : wordsP s = fun _ => 0 := by funext k; rw [wordsP, h]; rfl
end Go.Proofs.Ytgkmcooahjoagaa
