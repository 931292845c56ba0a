/- Contracts of the document's answers for words, bit by bit: Bit, With, Get of eight bits, Byte. Conditions: none. -/
import Derived.Test.YtibpagmpdgflmaaGreatDoorZK7
import Derived.Test.YtibpagmpdgflmaaGreatDoorZW1
import Derived.Laws.BitsAllLaws
import Derived.Laws.ShiftsVarLaws
namespace Go.Proofs.YtibpagmpdgflmaaGreatDoor
open Go.RowKit

/-- A word with a bit. -/
def withN (a i : Nat) (b : Bool) : Nat := if a.testBit i = b then a else a ^^^ 2 ^ i

theorem testBit_low {n i : Nat} (h : n < 2 ^ i) : n.testBit i = false := Nat.testBit_lt_two_pow h
/-- A number's bits, one more each time. -/
theorem withN_grow (x n i : Nat) (h : n = x % 2 ^ i) : withN n i (x.testBit i) = x % 2 ^ (i + 1) := by
  have hlt : n < 2 ^ i := by rw [h]; exact Nat.mod_lt _ (Nat.two_pow_pos i)
  rw [withN, testBit_low hlt]
  have hs : x % 2 ^ (i + 1) = x % 2 ^ i + 2 ^ i * (x / 2 ^ i % 2) := by rw [Nat.pow_succ, Nat.mod_mul]
  cases hb : x.testBit i
  · rw [if_pos rfl, hs, h]
    rw [Nat.testBit_eq_decide_div_mod_eq] at hb
    have : x / 2 ^ i % 2 = 0 := by have := of_decide_eq_false hb; omega
    rw [this]; simp
  · rw [if_neg (by simp), hs, h]
    rw [Nat.testBit_eq_decide_div_mod_eq] at hb
    have h1 : x / 2 ^ i % 2 = 1 := by have := of_decide_eq_true hb; omega
    rw [h1, Nat.mul_one, ← h]
    have := Nat.two_pow_add_eq_or_of_lt hlt 1
    rw [Nat.mul_one] at this
    rw [Nat.add_comm, this]
    apply Nat.eq_of_testBit_eq
    intro j
    rw [Nat.testBit_xor, Nat.testBit_or]
    by_cases hj : j = i
    · subst hj; rw [testBit_low hlt]; simp
    · have : (2 ^ i).testBit j = false := by
        rw [Nat.testBit_two_pow]; simp; omega
      rw [this]; simp
theorem withN_lt {a i : Nat} {b : Bool} (ha : a < 18446744073709551616) (hi : i < 64) : withN a i b < 18446744073709551616 := by
  unfold withN
  split
  · exact ha
  · exact Nat.xor_lt_two_pow (n := 64) ha (Nat.pow_lt_pow_of_lt (a := 2) (n := i) (m := 64) (by decide) hi)

/-- A byte of words. -/
def byteW (l : List Nat) (i : Nat) : Nat := l.getD (i / 8) 0 / 2 ^ (8 * (i % 8)) % 256
def encW (a : Nat) : Value := .int .u64 a

end Go.Proofs.YtibpagmpdgflmaaGreatDoor
