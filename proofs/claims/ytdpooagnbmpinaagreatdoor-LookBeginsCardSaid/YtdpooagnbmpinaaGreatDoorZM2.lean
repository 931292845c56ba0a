/- The chapter's rows, as law 06 asks them. Conditions: none. -/
import Derived.Test.YtdpooagnbmpinaaGreatDoorZM1
import Derived.Test.YtdpooagnbmpinaaGreatDoorZW7
namespace Go.Proofs.YtdpooagnbmpinaaGreatDoor
open Go.RowKit

theorem run_eql_five (f g : Nat → Nat) (w : World) : (binOp .eql 190 (encF f) (encF g)).run Tryz.prog w = .ok (.bool (eqF f g)) w := by
  have hu : Tryz.prog.underlying 190 = some (.array 5 24) := by kernel_rfl
  have u1 : Tryz.prog.underlying 24 = some (.int .u64) := by kernel_rfl
  have hz := Tryz.sizeOf24
  have ha := Tryz.isAgg24
  obtain ⟨i0, hi, _, _, _⟩ := info_parts Tryz.infoU64
  have hc : Tryz.prog.cellsOf 24 = 1 := by kernel_rfl
  unfold encF
  simp only [binOp, Op.equal, Op.maxDepth, Sem.run_bind]
  rw [show (10000 : Nat) = 9999 + 1 from rfl, run_equalIn_array w 9999 _ _ hu hi, hc, show List.range 5 = [0, 1, 2, 3, 4] from rfl]
  rw [show (9999 : Nat) = 9998 + 1 from rfl]
  simp only [Op.eqItems]
  go_simp
  simp only [eqF]
  go_simp
  simp only [Int.ofNat_inj]
  by_cases h0 : f 0 = g 0 <;> by_cases h1 : f 1 = g 1 <;> by_cases h2 : f 2 = g 2 <;> by_cases h3 : f 3 = g 3 <;> by_cases h4 : f 4 = g 4 <;> simp [h0, h1, h2, h3, h4]
/-- Sorted of names, when it is known what that is. -/
theorem sorted_to (xs ys : List (List UInt8)) (n m : Nat) (hx : xs.length = n) (hy : ys.length = m) (hm : n ≤ 100000) (hs : ∀ x ∈ xs, x.length ≤ maxLen) (hall : xs.all rightB = true) (hr : Rising ys) (hmem : ∀ x, x ∈ ys ↔ x ∈ xs) (A : Option Addr) (c : Nat) (W : World) (h : RowAt W A (xs.map encT)) :
    Calls Tryz.prog 63 #[.slice A n c] W fun e W' => ∃ A' c', e = .returned (.tuple #[.slice A' m c', .int .i64 0]) ∧ m ≤ c' ∧ c' ≤ maxLen ∧ Hid (RowAt W' A' (ys.map encT)) ∧ Below W.heap.size W W' := by
  refine (labelSorted_any xs A n c W hx hm hs h).mono ?_
  rintro e W' ⟨hb, ⟨h0, _⟩ | ⟨_, v, zs, rfl, hown, hri, hme⟩⟩
  · rw [hall] at h0; cases h0
  · have e : zs = ys := rising_one hri hr fun x => (hme x).trans (hmem x).symm
    subst e
    rw [hy] at hown
    obtain ⟨A', c', rfl, h1, h2⟩ := owns_slice hown
    exact ⟨A', c', rfl, h1, h2, row_of_own hown, hb⟩
def fAB (k : Nat) : Nat := if k = 0 then 25185 else 0
theorem fAB_eq : wordsP [97, 98] = fAB := by
  funext k
  match k with
  | 0 => rfl
  | k + 1 =>
    rw [wordsP, if_pos (by decide), fAB, if_neg (by omega)]
    exact wordAt_past (by simp; omega)
theorem fAB_lt (k : Nat) : fAB k < 18446744073709551616 := by unfold fAB; split <;> omega

end Go.Proofs.YtdpooagnbmpinaaGreatDoor
