/- The chapter's rows, as law 06 asks them. Conditions: none. -/
import Derived.Test.YtgkmcooahjoagaaM1
import Derived.Test.YtgkmcooahjoagaaW7
namespace Go.Proofs.Ytgkmcooahjoagaa
open Go.RowKit

theorem num_any (z : Int) (w : World) : Calls Try.prog 12 #[.int .i64 z] w fun e w' => e = .returned (.int .i64 z) ∧ w = w' := by
  go_enter Try.func12, Try.ntmps12
  go_wp2
  go_ret
  exact ⟨rfl, rfl⟩
theorem run_eql_five (f g : Nat → Nat) (w : World) : (binOp .eql 33 (encF f) (encF g)).run Try.prog w = .ok (.bool (eqF f g)) w := by
  have hu : Try.prog.underlying 33 = some (.array 5 32) := by kernel_rfl
  have u1 : Try.prog.underlying 32 = some (.int .u64) := by kernel_rfl
  have hz := Try.sizeOf32
  have ha := Try.isAgg32
  obtain ⟨i0, hi, _, _, _⟩ := info_parts Try.infoU64
  have hc : Try.prog.cellsOf 32 = 1 := by kernel_rfl
  unfold encF
  simp only [binOp, Op.equal, Op.maxDepth, Sem.run_bind]
  rw [show (10000 : Nat) = 9999 + 1 from rfl, run_equalIn_array w 9999 _ _ hu hi, hc, show List.range 5 = [0, 1, 2, 3, 4] from rfl]
  rw [show (9999 : Nat) = 9998 + 1 from rfl]
  simp only [Op.eqItems]
  go_simp
  simp only [eqF]
  go_simp
  simp only [Int.ofNat_inj]
  by_cases h0 : f 0 = g 0 <;> by_cases h1 : f 1 = g 1 <;> by_cases h2 : f 2 = g 2 <;> by_cases h3 : f 3 = g 3 <;> by_cases h4 : f 4 = g 4 <;> simp [h0, h1, h2, h3, h4]
/-- Sorted of names, when it is known what that is. -/
theorem sorted_to (xs ys : List (List UInt8)) (n m : Nat) (hx : xs.length = n) (hy : ys.length = m) (hm : n ≤ 100000) (hs : ∀ x ∈ xs, x.length ≤ maxLen) (hall : xs.all rightB = true) (hr : Rising ys) (hmem : ∀ x, x ∈ ys ↔ x ∈ xs) (A : Option Addr) (c : Nat) (W : World) (h : RowAt W A (xs.map encT)) :
    Calls Try.prog 11 #[.slice A n c] W fun e W' => ∃ A' c', e = .returned (.tuple #[.slice A' m c', .int .i64 0]) ∧ m ≤ c' ∧ c' ≤ maxLen ∧ Hid (RowAt W' A' (ys.map encT)) ∧ Below W.heap.size W W' := by
  refine (labelSorted_any xs A n c W hx hm hs h).mono ?_
  rintro e W' ⟨hb, ⟨h0, _⟩ | ⟨_, v, zs, rfl, hown, hri, hme⟩⟩
  · rw [hall] at h0; cases h0
  · have e : zs = ys := rising_one hri hr fun x => (hme x).trans (hmem x).symm
    subst e
    rw [hy] at hown
    obtain ⟨A', c', rfl, h1, h2⟩ := owns_slice hown
    exact ⟨A', c', rfl, h1, h2, row_of_own hown, hb⟩
def fAB (k : Nat) : Nat := if k = 0 then 25185 else 0
theorem fAB_eq : wordsP [97, 98] = fAB := by
  funext k
  match k with
  | 0 => rfl
  | k + 1 =>
    rw [wordsP, if_pos (by decide), fAB, if_neg (by omega)]
    exact wordAt_past (by simp; omega)
theorem fAB_lt (k : Nat) : fAB k < 18446744073709551616 := by unfold fAB; split <;> omega

set_option maxRecDepth 200000 in
set_option maxHeartbeats 4000000 in
theorem works_any (w : World) : Calls Try.prog 9 #[] w fun e w' => e = .returned (.bool true) ∧ Below w.heap.size w w' := by
  have hab : ofBytes [97, 98] = ⟨#[97, 98]⟩ := rfl
  have hW := fun W => labelWords_any ⟨#[97, 98]⟩ W (by decide)
  have e1 : bytesOf ⟨#[97, 98]⟩ = [97, 98] := rfl
  rw [e1, fAB_eq, show errB (rightB [97, 98]) = 0 by decide] at hW
  have hR2 := fun W => labelRead_any fAB fAB_lt 2 W (by decide)
  rw [show readL fAB 2 = ([97, 98], 0) by decide +kernel] at hR2
  simp only [hab] at hR2
  have hR1 := fun W => labelRead_any fAB fAB_lt 1 W (by decide)
  rw [show readL fAB 1 = ([], 161) by decide +kernel] at hR1
  have hS := fun A c W h => sorted_to [[98], [97], [98]] [[97], [98]] 3 2 rfl rfl (by decide) (by decide) (by decide) (by unfold Rising; decide +kernel) (by intro x; simp; intro h; exact .inr h) A c W h
  have hT := fun A B c d W h h' => texts_of [[97], [98]] [[97], [98]] A B 2 2 c d W rfl rfl (by decide) h h'
  have hC1 := fun W => check_any ⟨#[97, 47, 98]⟩ W (by decide)
  have hC2 := fun W => check_any ⟨#[46, 46]⟩ W (by decide)
  have hC3 := fun W => check_any ⟨#[97, 98, 99, 100, 101, 102, 103, 104, 105, 106, 107, 108, 109, 110, 111, 112, 113, 114, 115, 116, 117, 118, 119, 120, 121, 122, 97, 98, 99, 100, 101, 102, 103, 104, 105, 106, 107, 108, 109, 110, 111]⟩ W (by decide)
  have hC4 := fun W => check_any ⟨#[]⟩ W (by decide)
  rw [show errB (rightB (⟨#[97, 47, 98]⟩ : ByteArray).data.toList) = 160 by decide] at hC1
  rw [show errB (rightB (⟨#[46, 46]⟩ : ByteArray).data.toList) = 160 by decide] at hC2
  rw [show errB (rightB (⟨#[97, 98, 99, 100, 101, 102, 103, 104, 105, 106, 107, 108, 109, 110, 111, 112, 113, 114, 115, 116, 117, 118, 119, 120, 121, 122, 97, 98, 99, 100, 101, 102, 103, 104, 105, 106, 107, 108, 109, 110, 111]⟩ : ByteArray).data.toList) = 160 by decide] at hC3
  rw [show errB (rightB (⟨#[]⟩ : ByteArray).data.toList) = 160 by decide] at hC4
  unfold encF at hW hR2 hR1
  have HW := Lib.hid hW
  have HR2 := Lib.hid hR2
  have HR1 := Lib.hid hR1
  have HS := Lib.hid hS
  have HC1 := Lib.hid hC1
  have HT := Lib.hid hT
  have HC2 := Lib.hid hC2
  have HC3 := Lib.hid hC3
  have HC4 := Lib.hid hC4
  clear hT hW hR2 hR1 hS hC1 hC2 hC3 hC4 e1 hab
  go_enter Try.func9, Try.ntmps9
  go_wp2_with fail
  refine (HW.out _).mono ?_
  rintro e w1 ⟨rfl, hb1⟩
  go_wp2_with fail
  refine (HR2.out _).mono ?_
  rintro e w2 ⟨rfl, hb2⟩
  have hB2 := below_trans (hb1.alloc hb1.size (.cells #[.int .u64 (fAB 0 : Nat), .int .u64 (fAB 1 : Nat), .int .u64 (fAB 2 : Nat), .int .u64 (fAB 3 : Nat), .int .u64 (fAB 4 : Nat)] 33)) hb2
  have hA2 : Arr5 w2 w1.heap.size fAB := by
    have hh : w2.heap[w1.heap.size]? = some (.cells #[.int .u64 (fAB 0 : Nat), .int .u64 (fAB 1 : Nat), .int .u64 (fAB 2 : Nat), .int .u64 (fAB 3 : Nat), .int .u64 (fAB 4 : Nat)] 33 (0, 0)) := (hb2.block w1.heap.size (by simp)).trans (heap_alloc_new w1 _)
    refine ⟨fun k hk => ?_, fun k => by simp [World.frozen?, hh]⟩
    rw [cell_of_row _ _ _ _ _ _ hh]
    match k, hk with
    | 0, _ => rfl
    | 1, _ => rfl
    | 2, _ => rfl
    | 3, _ => rfl
    | 4, _ => rfl
  have hs2 : w1.heap.size < w2.heap.size := by have := hb2.size; simp at this; omega
  obtain ⟨d0, d1, d2, d3, d4⟩ := hA2.five
  clear hb1 hb2
  have HB2 := Lib.hid hB2
  clear hB2
  go_wp2_with fail
  refine (HR1.out _).mono ?_
  rintro e w3 ⟨rfl, hb3⟩
  have hA3 := hA2.below hb3 hs2
  have HB3 := Lib.hid (below_trans HB2.out hb3)
  have hs3 : w1.heap.size < w3.heap.size := by have := hb3.size; omega
  clear d0 d1 d2 d3 d4 hA2 hb3
  go_wp2_with fail
  refine (HS.out _ _ _ ?_).mono ?_
  · exact fun _ => ⟨_, 0, rfl, by simp, fun k u hu => by
      match k, hu with
      | 0, hu => simp at hu; subst hu; simp [encT]; rfl
      | 1, hu => simp at hu; subst hu; simp [encT]; rfl
      | 2, hu => simp at hu; subst hu; simp [encT]; rfl⟩
  rintro e w4 ⟨A4, c4, rfl, h24, hcm4, HR4, hb4⟩
  have hA4 := (hA3.below ((Below.refl _ w3).alloc (Nat.le_refl _) _) hs3).below hb4 (by simp; omega)
  have HB4 := Lib.hid (below_trans (HB3.out.alloc HB3.out.size (.cells #[.string ⟨#[98]⟩, .string ⟨#[97]⟩, .string ⟨#[98]⟩] 9)) hb4)
  have hs4 : w1.heap.size < w4.heap.size := by have := hb4.size; simp at this; omega
  obtain ⟨d0, d1, d2, d3, d4⟩ := hA4.five
  have heq : ∀ W, (binOp .eql 33 (.agg #[.int .u64 (fAB 0 : Nat), .int .u64 (fAB 1 : Nat), .int .u64 (fAB 2 : Nat), .int .u64 (fAB 3 : Nat), .int .u64 (fAB 4 : Nat)]) (.agg #[.int .u64 25185, .int .u64 0, .int .u64 0, .int .u64 0, .int .u64 0])).run Try.prog W = .ok (.bool true) W := fun W => run_eql_five fAB fAB W
  clear hb4 hA4 hA3
  go_wp2_with (first
    | (go_at_call 12; refine (num_any _ _).mono ?_; rintro e w9 ⟨rfl, rfl⟩)
    )
  refine (HC1.out _).mono ?_
  rintro e w5 ⟨rfl, hb5⟩
  go_wp2_with (go_at_call 12; refine (num_any _ _).mono ?_; rintro e w9 ⟨rfl, rfl⟩)
  refine (HC2.out _).mono ?_
  rintro e w6 ⟨rfl, hb6⟩
  go_wp2_with (go_at_call 12; refine (num_any _ _).mono ?_; rintro e w9 ⟨rfl, rfl⟩)
  have HR6 := Lib.hid ((HR4.out.below hb5).below hb6)
  have HB6 := Lib.hid (below_trans (below_trans HB4.out hb5) hb6)
  clear hb5 hb6
  refine (HT.out _ _ _ _ _ (HR6.out.alloc _) ?_).mono ?_
  · exact fun _ => ⟨_, 0, rfl, by simp, fun k u hu => by
      match k, hu with
      | 0, hu => simp at hu; subst hu; simp [encT]; rfl
      | 1, hu => simp at hu; subst hu; simp [encT]; rfl⟩
  rintro e w7 ⟨rfl, hb7⟩
  have HB7 := Lib.hid (below_trans (HB6.out.alloc HB6.out.size (.cells #[.string ⟨#[97]⟩, .string ⟨#[98]⟩] 9)) hb7)
  clear hb7
  go_wp2_with fail
  refine (HC3.out _).mono ?_
  rintro e w8 ⟨rfl, hb8⟩
  go_wp2_with (go_at_call 12; refine (num_any _ _).mono ?_; rintro e w9 ⟨rfl, rfl⟩)
  refine (HC4.out _).mono ?_
  rintro e w9 ⟨rfl, hb9⟩
  have HB9 := Lib.hid (below_trans (below_trans HB7.out hb8) hb9)
  clear hb8 hb9
  go_wp2_with (go_at_call 12; refine (num_any _ _).mono ?_; rintro e w9 ⟨rfl, rfl⟩)
  go_ret
  exact ⟨rfl, HB9.out⟩
end Go.Proofs.Ytgkmcooahjoagaa
