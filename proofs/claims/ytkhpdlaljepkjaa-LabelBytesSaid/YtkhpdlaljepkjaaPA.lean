/- Plain: words of a name with one byte that is another one. No program in sight. Conditions: none. -/
import Derived.Test.YtkhpdlaljepkjaaP9
namespace Go.Proofs.Ytkhpdlaljepkjaa
open Go.RowKit

/-- Words, one byte of one of them mixed with another. -/
def mixW (f : Nat → Nat) (k i c : Nat) : Nat → Nat := fun j => if j = k then f k ^^^ (c <<< (8 * i)) else f j
theorem shift_lt {i c : Nat} (hi : i < 8) (hc : c < 256) : c <<< (8 * i) < 18446744073709551616 := by
  rw [Nat.shiftLeft_eq]
  have : c * 2 ^ (8 * i) < 256 * 2 ^ (8 * i) := Nat.mul_lt_mul_of_pos_right hc (Nat.two_pow_pos _)
  have h2 : 256 * 2 ^ (8 * i) ≤ 256 * 2 ^ 56 := Nat.mul_le_mul_left _ (Nat.pow_le_pow_right (by omega) (by omega))
  omega
theorem mixW_lt {f : Nat → Nat} (hf : ∀ k, f k < 18446744073709551616) {k i c : Nat} (hi : i < 8) (hc : c < 256) (j : Nat) : mixW f k i c j < 18446744073709551616 := by
  unfold mixW
  split
  · exact Nat.xor_lt_two_pow (n := 64) (hf k) (shift_lt hi hc)
  · exact hf j
theorem mixW_at (f : Nat → Nat) (k i c : Nat) : mixW f k i c k = f k ^^^ (c <<< (8 * i)) := if_pos rfl
theorem mixW_ne {f : Nat → Nat} {k i c : Nat} (h0 : 0 < c) : mixW f k i c k ≠ f k := by
  rw [mixW_at]
  intro h
  have h1 : c <<< (8 * i) = 0 := by
    have : f k ^^^ (f k ^^^ (c <<< (8 * i))) = f k ^^^ f k := by rw [h]
    rw [← Nat.xor_assoc, Nat.xor_self, Nat.zero_xor] at this
    exact this
  rw [Nat.shiftLeft_eq] at h1
  have := Nat.mul_pos h0 (Nat.two_pow_pos (8 * i))
  omega
theorem byteOf_mix (f : Nat → Nat) {k i c j m : Nat} (hc : c < 256) (h : ¬ (j = k ∧ m = i)) : byteOf (mixW f k i c j) m = byteOf (f j) m := by
  unfold mixW
  split
  · rename_i e
    subst e
    have hmi : m ≠ i := fun e => h ⟨rfl, e⟩
    unfold byteOf
    apply UInt8.toNat_inj.1
    rw [UInt8.toNat_ofNat', UInt8.toNat_ofNat']
    apply Nat.eq_of_testBit_eq
    intro b
    rw [Nat.testBit_mod_two_pow, Nat.testBit_mod_two_pow, Nat.testBit_div_two_pow, Nat.testBit_div_two_pow, Nat.testBit_xor, Nat.testBit_shiftLeft]
    by_cases hb : b < 8
    · have hf : (decide (8 * m + b ≥ 8 * i) && c.testBit (8 * m + b - 8 * i)) = false := by
        by_cases hle : 8 * i ≤ 8 * m + b
        · rw [Nat.testBit_lt_two_pow (Nat.lt_of_lt_of_le hc (Nat.pow_le_pow_right (n := 2) (i := 8) (by omega) (by omega))), Bool.and_false]
        · rw [decide_eq_false hle, Bool.false_and]
      rw [show b + 8 * m = 8 * m + b by omega, hf, Bool.xor_false]
    · rw [decide_eq_false hb, Bool.false_and, Bool.false_and]
  · rfl
theorem bytes40_mix {f : Nat → Nat} {a c n : Nat} (hc : c < 256) (h : n ≤ a) : (bytes40 (mixW f (a / 8) (a % 8) c)).take n = (bytes40 f).take n := by
  apply List.ext_getElem?
  intro j
  rw [List.getElem?_take, List.getElem?_take]
  by_cases hj : j < n
  · rw [if_pos hj, if_pos hj, bytes40_eq, bytes40_eq, List.getElem?_map, List.getElem?_map]
    by_cases h40 : j < 40
    · rw [List.getElem?_range h40]
      show some (byteOf _ _) = some (byteOf _ _)
      rw [byteOf_mix f hc (by omega)]
    · rw [List.getElem?_eq_none (by simp; omega)]; rfl
  · rw [if_neg hj, if_neg hj]
/-- What they read as: nothing, or another name. -/
theorem read_mix {s : List UInt8} (hs : rightB s = true) {a c : Nat} (ha : a < 40) (h0 : 0 < c) (hc : c < 256) :
    ((readL (mixW (wordAt s) (a / 8) (a % 8) c) s.length).2 = 161 ∨ ((readL (mixW (wordAt s) (a / 8) (a % 8) c) s.length).2 = 0 ∧ (readL (mixW (wordAt s) (a / 8) (a % 8) c) s.length).1 ≠ s ∧ a < s.length)) ∧ sameL s (mixW (wordAt s) (a / 8) (a % 8) c) s.length = false := by
  obtain ⟨_, hs40⟩ := rightB_size hs
  generalize hv : mixW (wordAt s) (a / 8) (a % 8) c = v
  by_cases hcnd : 1 ≤ (s.length : Int) ∧ (s.length : Int) ≤ 40 ∧ isName v ((bytes40 v).take (s.length : Int).toNat) = true
  · have hr : readL v s.length = ((bytes40 v).take (s.length : Int).toNat, 0) := if_pos hcnd
    rw [Int.toNat_natCast] at hcnd hr
    have hne : (bytes40 v).take s.length ≠ s := by
      intro e
      have h3 := hcnd.2.2
      rw [e, isName, hs, Bool.true_and] at h3
      have := (eqF_iff _ _).1 h3 (a / 8) (by omega)
      rw [← hv] at this
      exact mixW_ne h0 this.symm
    have hlt : a < s.length := by
      by_cases hla : a < s.length
      · exact hla
      · refine (hne ?_).elim
        rw [← hv, bytes40_mix hc (by omega), bytes40_take hs40]
    refine ⟨.inr ⟨by rw [hr], by rw [hr]; exact hne, hlt⟩, ?_⟩
    rw [sameL, hr]
    show (true && (_ == s)) = false
    rw [Bool.true_and, beq_eq_false_iff_ne]; exact hne
  · have hr : readL v s.length = ([], 161) := if_neg hcnd
    rw [sameL, hr]
    exact ⟨.inl rfl, rfl⟩
end Go.Proofs.Ytkhpdlaljepkjaa
