/- LabelBytes returns true, whatever the text, the place and the byte. Conditions: none. -/
import Derived.Test.YtkhpdlaljepkjaaN1
import Derived.Test.YtkhpdlaljepkjaaPA
namespace Go.Proofs.Ytkhpdlaljepkjaa
open Go.RowKit

set_option maxRecDepth 200000 in
set_option maxHeartbeats 4000000 in
theorem bytes_core (s : ByteArray) (w : World) (f : Nat → Nat) (a n c k i : Nat) (t : ByteArray) (z : Int) (hn : s.size = n) (h60 : n ≤ 60) (ha : a < 40) (h0 : 0 < c) (hc : c < 256) (hk : a / 8 = k) (hi : a % 8 = i) (hff : ∀ k, f k < 18446744073709551616)
    (hcase : z = 161 ∨ (z = 0 ∧ (t.toList == s.toList) = false ∧ a < n))
    (hws : ∀ W, Calls Try.prog 17 #[.string s] W fun e w' => e = .returned (.tuple #[encF f, .int .i64 0]) ∧ Below W.heap.size W w')
    (hR : ∀ W, Calls Try.prog 14 #[encF (mixW f k i c), .int .i64 n] W fun e w' => e = .returned (.tuple #[.string t, .int .i64 z]) ∧ Below W.heap.size W w')
    (hS : ∀ W, Calls Try.prog 16 #[.string s, encF (mixW f k i c), .int .i64 n] W fun e w' => e = .returned (.bool false) ∧ Below W.heap.size W w') :
    Calls Try.prog 7 #[.string s, .int .i64 a, .int .u8 c] w fun e w' => e = .returned (.bool true) ∧ Below w.heap.size w w' := by
  have HK := Lib.hid works_any
  have hk5 : k < 5 := by omega
  have hi8 : i < 8 := by omega
  have hdiv : (a : Int).tdiv 8 = k := by rw [Int.tdiv_eq_ediv_of_nonneg (by omega)]; omega
  have hmod : (a : Int).tmod 8 = i := by rw [Int.tmod_eq_emod_of_nonneg (by omega)]; omega
  have hc0 : ((c : Int) == 0) = false := by rw [beq_eq_false_iff_ne]; omega
  have HX : Hid (bits .xor .u64 (f k : Int) (IntKind.u64.wrap ((c : Int) * 2 ^ (8 * i))) = (mixW f k i c k : Nat)) := by
    have e : IntKind.u64.wrap ((c : Int) * 2 ^ (8 * i)) = ((c <<< (8 * i) : Nat) : Int) := by
      have hp := shift_lt hi8 hc
      have e2 : ((c : Int) * 2 ^ (8 * i)) = ((c <<< (8 * i) : Nat) : Int) := by rw [Nat.shiftLeft_eq]; simp
      rw [e2]
      generalize c <<< (8 * i) = q at hp
      simp only [IntKind.wrap, IntKind.bits, IntKind.signed]
      simp
      omega
    rw [Hid, e, mixW_at]
    exact u64_xor_nat (f k) _ (hff k) (shift_lt hi8 hc)
  have HM : Hid (mixW f k i c k = mixW f k i c k ∧ ∀ j, j ≠ k → mixW f k i c j = f j) := ⟨rfl, fun j hj => if_neg hj⟩
  have hx := HX.out
  generalize hgm : mixW f k i c = m at *
  have HG := Lib.hid hgm
  unfold encF at hws hR hS
  have HWS := Lib.hid hws
  have HR := Lib.hid hR
  have HS := Lib.hid hS
  clear hws hR hS hff hgm HX
  have hks : k = 0 ∨ k = 1 ∨ k = 2 ∨ k = 3 ∨ k = 4 := by omega
  obtain ⟨m0, hm0⟩ : ∃ m0, m k = m0 := ⟨_, rfl⟩
  rw [hm0] at hx
  have hmj : ∀ j, m j = if j = k then m0 else f j := fun j => by
    by_cases e : j = k
    · rw [if_pos e, e, hm0]
    · rw [if_neg e, HM.out.2 j e]
  clear HM HG
  rcases hcase with rfl | ⟨rfl, hts, han⟩ <;> rcases hks with rfl | rfl | rfl | rfl | rfl
  all_goals
    have q0 := hmj 0
    have q1 := hmj 1
    have q2 := hmj 2
    have q3 := hmj 3
    have q4 := hmj 4
    simp at q0 q1 q2 q3 q4
    have HMO := Lib.hid (And.intro q0 (And.intro q1 (And.intro q2 (And.intro q3 q4))))
    rw [q0, q1, q2, q3, q4] at HR HS
    clear hm0 hmj q0 q1 q2 q3 q4
    go_enter Try.func7, Try.ntmps7
    go_wp2_with fail
    refine (HWS.out _).mono ?_
    rintro e w1 ⟨rfl, hb1⟩
    have HB1 := Lib.hid (hb1.alloc hb1.size (.cells #[.int .u64 (f 0 : Nat), .int .u64 (f 1 : Nat), .int .u64 (f 2 : Nat), .int .u64 (f 3 : Nat), .int .u64 (f 4 : Nat)] 33))
    clear hb1
    go_wp2_with (go_at_call 11; refine (num_any _ _).mono ?_; rintro e w9 ⟨rfl, rfl⟩)
    refine (HR.out _).mono ?_
    rintro e w2 ⟨rfl, hb2⟩
    obtain ⟨q0, q1, q2, q3, q4⟩ := HMO.out
    have hd : ∀ j, j < 5 → w2.cell? ⟨w1.heap.size + 1, j, none⟩ = some (.int .u64 (m j : Nat)) := fun j hj => (hb2.cell (p := ⟨_, j, none⟩) (by simp)).trans (by
      match j, hj with
      | 0, _ => rw [q0]; simp
      | 1, _ => rw [q1]; simp
      | 2, _ => rw [q2]; simp
      | 3, _ => rw [q3]; simp
      | 4, _ => rw [q4]; simp)
    have d0 := hd 0 (by decide)
    have d1 := hd 1 (by decide)
    have d2 := hd 2 (by decide)
    have d3 := hd 3 (by decide)
    have d4 := hd 4 (by decide)
    rw [q0] at d0
    rw [q1] at d1
    rw [q2] at d2
    rw [q3] at d3
    rw [q4] at d4
    have HB2 := Lib.hid (below_trans (HB1.out.alloc HB1.out.size _) hb2)
    clear hb2 hd q0 q1 q2 q3 q4
    go_wp2_with (go_at_call 11; refine (num_any _ _).mono ?_; rintro e w9 ⟨rfl, rfl⟩)
    refine (HS.out _).mono ?_
    rintro e w3 ⟨rfl, hb3⟩
    clear d0 d1 d2 d3 d4
    go_wp2_with fail
    refine (HK.out _).mono ?_
    rintro e w4 ⟨rfl, hb4⟩
    go_wp2_with fail
    go_ret
    exact ⟨rfl, below_trans (below_trans HB2.out hb3) hb4⟩
end Go.Proofs.Ytkhpdlaljepkjaa
