/- Contracts of the document's answers for words, bit by bit: Bit, With, Get of eight bits, Byte. Conditions: none. -/
import Derived.Test.YtdlblbhmeidhbaaGreatDoorZK7
import Derived.Test.YtdlblbhmeidhbaaGreatDoorZW1
import Derived.Laws.BitsAllLaws
import Derived.Laws.ShiftsVarLaws
namespace Go.Proofs.YtdlblbhmeidhbaaGreatDoor
open Go.RowKit

theorem bit_any (a i : Nat) (w : World) (_ha : a < 18446744073709551616) (hi : i < 64) :
    Calls Tryz.prog 121 #[.int .u64 a, .int .i64 i] w fun e w' => e = .returned (.bool (a.testBit i)) ∧ w = w' := by
  have HT : Hid ((((a : Int) / 2 ^ i).tmod 2 == 1) = a.testBit i) := by
    rw [Hid, Nat.testBit_eq_decide_div_mod_eq]
    have e : ((a : Int) / 2 ^ i).tmod 2 = ((a / 2 ^ i % 2 : Nat) : Int) := by
      have h2 : ((2 : Int) ^ i) = ((2 ^ i : Nat) : Int) := by simp
      rw [h2, Int.tmod_eq_emod_of_nonneg (by exact_mod_cast Nat.zero_le (a / 2 ^ i))]; simp
    rw [e, Bool.eq_iff_iff, beq_iff_eq, decide_eq_true_iff]
    exact ⟨fun h => by exact_mod_cast h, fun h => by exact_mod_cast h⟩
  go_enter Tryz.func121, Tryz.ntmps121
  go_wp2
  go_ret
  exact ⟨ret_bool' HT.out, rfl⟩

/-- A word with a bit. -/
def withN (a i : Nat) (b : Bool) : Nat := if a.testBit i = b then a else a ^^^ 2 ^ i

theorem with_any (a i : Nat) (b : Bool) (w : World) (ha : a < 18446744073709551616) (hi : i < 64) :
    Calls Tryz.prog 120 #[.int .u64 a, .int .i64 i, .bool b] w fun e w' => e = .returned (.int .u64 (withN a i b : Nat)) ∧ w = w' := by
  have hp : 2 ^ i < 18446744073709551616 := Nat.pow_lt_pow_of_lt (a := 2) (n := i) (m := 64) (by decide) hi
  have hx : bits .xor .u64 (a : Int) (IntKind.u64.wrap ((2 : Int) ^ i)) = ((a ^^^ 2 ^ i : Nat) : Int) := by
    have := u64_xor_nat a (2 ^ i) ha hp
    have e : IntKind.u64.wrap ((2 : Int) ^ i) = ((2 ^ i : Nat) : Int) := by
      have e2 : ((2 : Int) ^ i) = ((2 ^ i : Nat) : Int) := by simp
      rw [e2]
      generalize 2 ^ i = q at hp
      simp only [IntKind.wrap, IntKind.bits, IntKind.signed]
      simp
      omega
    rw [e]; exact this
  have hb := bit_any a i w ha hi
  have HW : ∀ c, a.testBit i = c → Hid (withN a i b = if c = b then a else a ^^^ 2 ^ i) := fun c h => by rw [Hid, withN, h]
  generalize a.testBit i = c at *
  have HW' := Lib.hid (HW c rfl)
  have HB := Lib.hid hb
  clear hb HW hp
  generalize a ^^^ 2 ^ i = x at *
  by_cases hcb : c = b
  · have HE : Hid (withN a i b = a) := by rw [Hid, HW'.out.out, if_pos hcb]
    have h1 : (c == b) = true := by simpa using hcb
    clear hcb
    go_enter Tryz.func120, Tryz.ntmps120
    go_wp2_with (go_at_call 121; refine HB.out.mono ?_; rintro e w' ⟨rfl, rfl⟩)
    go_ret
    exact ⟨by rw [HE.out]; rfl, rfl⟩
  · have HE : Hid (withN a i b = x) := by rw [Hid, HW'.out.out, if_neg hcb]
    have h1 : (c == b) = false := by simpa using hcb
    clear hcb
    go_enter Tryz.func120, Tryz.ntmps120
    go_wp2_with (go_at_call 121; refine HB.out.mono ?_; rintro e w' ⟨rfl, rfl⟩)
    go_ret
    exact ⟨by rw [HE.out]; rfl, rfl⟩

theorem testBit_low {n i : Nat} (h : n < 2 ^ i) : n.testBit i = false := Nat.testBit_lt_two_pow h
/-- A number's bits, one more each time. -/
theorem withN_grow (x n i : Nat) (h : n = x % 2 ^ i) : withN n i (x.testBit i) = x % 2 ^ (i + 1) := by
  have hlt : n < 2 ^ i := by rw [h]; exact Nat.mod_lt _ (Nat.two_pow_pos i)
  rw [withN, testBit_low hlt]
  have hs : x % 2 ^ (i + 1) = x % 2 ^ i + 2 ^ i * (x / 2 ^ i % 2) := by rw [Nat.pow_succ, Nat.mod_mul]
  cases hb : x.testBit i
  · rw [if_pos rfl, hs, h]
    rw [Nat.testBit_eq_decide_div_mod_eq] at hb
    have : x / 2 ^ i % 2 = 0 := by have := of_decide_eq_false hb; omega
    rw [this]; simp
  · rw [if_neg (by simp), hs, h]
    rw [Nat.testBit_eq_decide_div_mod_eq] at hb
    have h1 : x / 2 ^ i % 2 = 1 := by have := of_decide_eq_true hb; omega
    rw [h1, Nat.mul_one, ← h]
    have := Nat.two_pow_add_eq_or_of_lt hlt 1
    rw [Nat.mul_one] at this
    rw [Nat.add_comm, this]
    apply Nat.eq_of_testBit_eq
    intro j
    rw [Nat.testBit_xor, Nat.testBit_or]
    by_cases hj : j = i
    · subst hj; rw [testBit_low hlt]; simp
    · have : (2 ^ i).testBit j = false := by
        rw [Nat.testBit_two_pow]; simp; omega
      rw [this]; simp
theorem withN_lt {a i : Nat} {b : Bool} (ha : a < 18446744073709551616) (hi : i < 64) : withN a i b < 18446744073709551616 := by
  unfold withN
  split
  · exact ha
  · exact Nat.xor_lt_two_pow (n := 64) ha (Nat.pow_lt_pow_of_lt (a := 2) (n := i) (m := 64) (by decide) hi)

/-- A byte of words. -/
def byteW (l : List Nat) (i : Nat) : Nat := l.getD (i / 8) 0 / 2 ^ (8 * (i % 8)) % 256
def encW (a : Nat) : Value := .int .u64 a

end Go.Proofs.YtdlblbhmeidhbaaGreatDoor
