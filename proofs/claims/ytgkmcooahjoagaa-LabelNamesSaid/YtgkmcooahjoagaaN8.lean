/- LabelNames returns true, whatever the text. Conditions: none. -/
import Derived.Test.YtgkmcooahjoagaaN1
import Derived.Test.YtgkmcooahjoagaaQ3
import Derived.Deep.RegionHeld3
namespace Go.Proofs.Ytgkmcooahjoagaa
open Go.RowKit

set_option maxRecDepth 200000 in
set_option maxHeartbeats 4000000 in
theorem names_no (s : ByteArray) (w : World) (hs : s.size ≤ maxLen) (h200 : s.size ≤ 200) (hr : rightB (bytesOf s) = false) :
    Calls Try.prog 8 #[.string s] w fun e w' => e = .returned (.bool true) ∧ Below w.heap.size w w' := by
  have HK := Lib.hid works_any
  have hW := fun W => labelWords_any s W hs
  have hB := fun W => bucket_any s W hs
  have hC := fun W => check_any s W hs
  have hR := fun W => refRight_any s W hs
  have e1 : s.data.toList = bytesOf s := rfl
  have e2 : wordsP (bytesOf s) = fun _ => 0 := by funext k; rw [wordsP, hr]; rfl
  have e3 : errB false = 160 := rfl
  have heq := fun W => run_eql_five (fun _ => 0) (fun _ => 0) W
  have e4 : eqF (fun _ => 0) (fun _ => 0) = true := by decide
  rw [e2, hr, e3] at hW
  rw [e1, hr] at hR
  rw [e1, hr, e3] at hC
  rw [hr, e3, if_neg (by decide)] at hB
  rw [e4] at heq
  unfold encF at hW heq
  have z : ((0 : Nat) : Int) = 0 := rfl
  simp only [z] at hW heq hB
  have HW := Lib.hid hW
  have HB := Lib.hid hB
  have HC := Lib.hid hC
  have HR := Lib.hid hR
  clear z hW hB hC hR e1 e2 e3 e4 hr
  go_enter Try.func8, Try.ntmps8
  go_wp2_with fail
  refine (HW.out _).mono ?_
  rintro e w1 ⟨rfl, hb1⟩
  have HB1 := Lib.hid (hb1.alloc hb1.size (.cells #[.int .u64 0, .int .u64 0, .int .u64 0, .int .u64 0, .int .u64 0] 33))
  have HA1 := Lib.hid (arr5_new w1 (fun _ => 0) 33)
  clear hb1
  go_wp2_with fail
  refine (HB.out _).mono ?_
  rintro e w2 ⟨rfl, hb2⟩
  have HB2 := Lib.hid (below_trans HB1.out hb2)
  have HA2 := Lib.hid (HA1.out.below hb2 (by simp))
  have hs2 : w1.heap.size < w2.heap.size := by have := hb2.size; simp at this; omega
  clear hb2
  go_wp2_with (go_at_call 10; refine (HR.out _).mono ?_; rintro e w9 ⟨rfl, rfl⟩)
  refine (HC.out _).mono ?_
  rintro e w3 ⟨rfl, hb3⟩
  have HB3 := Lib.hid (below_trans HB2.out hb3)
  have HA3 := Lib.hid (HA2.out.below hb3 hs2)
  obtain ⟨d0, d1, d2, d3, d4⟩ := HA3.out.five
  clear hb3
  go_wp2_with (go_at_call 12; refine (num_any _ _).mono ?_; rintro e w9 ⟨rfl, rfl⟩)
  refine (HK.out _).mono ?_
  rintro e w4 ⟨rfl, hb4⟩
  go_wp2_with fail
  go_ret
  exact ⟨rfl, below_trans HB3.out hb4⟩
set_option maxRecDepth 200000 in
set_option maxHeartbeats 8000000 in
theorem names_core (s : ByteArray) (w : World) (f : Nat → Nat) (r n : Nat) (hn : s.size = n) (h40 : n ≤ 40) (hr7 : r < 7)
    (hW : ∀ W, Calls Try.prog 18 #[.string s] W fun e w' => e = .returned (.tuple #[encF f, .int .i64 0]) ∧ Below W.heap.size W w')
    (hB : ∀ W, Calls Try.prog 19 #[.string s] W fun e w' => e = .returned (.tuple #[.int .i64 r, .int .i64 0]) ∧ Below W.heap.size W w')
    (hR : ∀ W, Calls Try.prog 10 #[.string s] W fun e w' => e = .returned (.bool true) ∧ W = w')
    (hL : ∀ W, Calls Try.prog 15 #[encF f, .int .i64 n] W fun e w' => e = .returned (.tuple #[.string s, .int .i64 0]) ∧ Below W.heap.size W w')
    (hC : ∀ W, Calls Try.prog 20 #[.string s] W fun e w' => e = .returned (.int .i64 0) ∧ Below W.heap.size W w')
    (hG : ∀ W, Calls Try.prog 21 #[.string s] W fun e w' => e = .returned (encF f) ∧ Below W.heap.size W w')
    (hD : ∀ W, Calls Try.prog 22 #[.string s] W fun e w' => e = .returned (.int .i64 r) ∧ Below W.heap.size W w')
    (heq : ∀ W, (binOp .eql 33 (encF f) (encF f)).run Try.prog W = .ok (.bool true) W) :
    Calls Try.prog 8 #[.string s] w fun e w' => e = .returned (.bool true) ∧ Below w.heap.size w w' := by
  have HK := Lib.hid works_any
  have hsq : (s.toList == s.toList) = true := by simp
  have hr0 : (0 : Int) ≤ (r : Int) := Int.natCast_nonneg _
  have hr7' : (r : Int) < 7 := by omega
  unfold encF at hW hL hG heq
  have HW := Lib.hid hW
  have HB := Lib.hid hB
  have HR := Lib.hid hR
  have HL := Lib.hid hL
  have HC := Lib.hid hC
  have HG := Lib.hid hG
  have HD := Lib.hid hD
  clear hW hB hR hL hC hG hD
  go_enter Try.func8, Try.ntmps8
  go_wp2_with fail
  refine (HW.out _).mono ?_
  rintro e w1 ⟨rfl, hb1⟩
  have HB1 := Lib.hid (hb1.alloc hb1.size (.cells #[.int .u64 (f 0 : Nat), .int .u64 (f 1 : Nat), .int .u64 (f 2 : Nat), .int .u64 (f 3 : Nat), .int .u64 (f 4 : Nat)] 33))
  have HA1 := Lib.hid (arr5_new w1 f 33)
  clear hb1
  go_wp2_with fail
  refine (HB.out _).mono ?_
  rintro e w2 ⟨rfl, hb2⟩
  have HB2 := Lib.hid (below_trans HB1.out hb2)
  have HA2 := Lib.hid (HA1.out.below hb2 (by simp))
  have hs2 : w1.heap.size < w2.heap.size := by have := hb2.size; simp at this; omega
  obtain ⟨d0, d1, d2, d3, d4⟩ := HA2.out.five
  clear hb2
  go_wp2_with (go_at_call 10; refine (HR.out _).mono ?_; rintro e w9 ⟨rfl, rfl⟩)
  clear d0 d1 d2 d3 d4
  refine (HL.out _).mono ?_
  rintro e w3 ⟨rfl, hb3⟩
  have HB3 := Lib.hid (below_trans HB2.out hb3)
  have HA3 := Lib.hid (HA2.out.below hb3 hs2)
  have hs3 : w1.heap.size < w3.heap.size := by have := hb3.size; omega
  clear hb3
  go_wp2_with fail
  have HS : Hid (∀ W, Below w3.heap.size w3 W → Below w3.heap.size w3 W ∧ W.cell? ⟨w1.heap.size, 0, none⟩ = some (.int .u64 (f 0 : Nat)) ∧ W.cell? ⟨w1.heap.size, 1, none⟩ = some (.int .u64 (f 1 : Nat)) ∧ W.cell? ⟨w1.heap.size, 2, none⟩ = some (.int .u64 (f 2 : Nat)) ∧ W.cell? ⟨w1.heap.size, 3, none⟩ = some (.int .u64 (f 3 : Nat)) ∧ W.cell? ⟨w1.heap.size, 4, none⟩ = some (.int .u64 (f 4 : Nat))) := fun W hW => ⟨hW, (HA3.out.below hW hs3).five⟩
  have hb0 : Below w3.heap.size w3 w3.drew := (Below.refl _ _).drew
  go_region_held3 (fun W => Below w3.heap.size w3 W ∧ W.cell? ⟨w1.heap.size, 0, none⟩ = some (.int .u64 (f 0 : Nat)) ∧ W.cell? ⟨w1.heap.size, 1, none⟩ = some (.int .u64 (f 1 : Nat)) ∧ W.cell? ⟨w1.heap.size, 2, none⟩ = some (.int .u64 (f 2 : Nat)) ∧ W.cell? ⟨w1.heap.size, 3, none⟩ = some (.int .u64 (f 3 : Nat)) ∧ W.cell? ⟨w1.heap.size, 4, none⟩ = some (.int .u64 (f 4 : Nat)))
    (first | assumption | exact HS.out _ (by assumption))
    ((first
      | (go_at_call 12; refine (num_any _ _).mono ?_; rintro e w9 ⟨rfl, rfl⟩)
      | (go_at_call 20; refine (HC.out _).mono ?_; rintro e w4 ⟨rfl, hb4⟩; have hb4 := below_trans (show Below w3.heap.size w3 _ ∧ _ from by assumption).1 hb4)
      | (go_at_call 21; refine (HG.out _).mono ?_; rintro e w4 ⟨rfl, hb4⟩; have hb4 := below_trans (show Below w3.heap.size w3 _ ∧ _ from by assumption).1 hb4)
      | (go_at_call 22; refine (HD.out _).mono ?_; rintro e w4 ⟨rfl, hb4⟩; have hb4 := below_trans (show Below w3.heap.size w3 _ ∧ _ from by assumption).1 hb4)
      | (go_at_call 9; refine (HK.out _).mono ?_; rintro e w4 ⟨rfl, hb4⟩; have hb4 := below_trans (show Below w3.heap.size w3 _ ∧ _ from by assumption).1 hb4)))
  all_goals
    go_wp2_with fail
    go_ret
    exact ⟨rfl, HB3.out.trans (hb4.mono HB3.out.size)⟩
set_option maxRecDepth 200000 in
set_option maxHeartbeats 1000000 in
theorem labelNames_any (s : ByteArray) (w : World) (hs : s.size ≤ maxLen) :
    Calls Try.prog 8 #[.string s] w fun e w' => e = .returned (.bool true) ∧ Below w.heap.size w w' := by
  by_cases h200 : s.size ≤ 200
  · cases hr : rightB (bytesOf s)
    · exact names_no s w hs h200 hr
    · obtain ⟨hl1, hl40⟩ := rightB_size hr
      have e0 : errB true = 0 := rfl
      have e1 : s.data.toList = bytesOf s := rfl
      have hW := fun W => labelWords_any s W hs
      have hB := fun W => bucket_any s W hs
      have hR := fun W => refRight_any s W hs
      have hC := fun W => check_any s W hs
      have hrd := readL_words hr
      have hff := wordAt_lt (bytesOf s)
      have heq := fun W => run_eql_five (wordAt (bytesOf s)) (wordAt (bytesOf s)) W
      have he4 : eqF (wordAt (bytesOf s)) (wordAt (bytesOf s)) = true := by simp [eqF]
      have hL := fun W => labelRead_any (wordAt (bytesOf s)) hff s.size W (wf_60 _ hs)
      rw [he4] at heq
      rw [hr, e0, if_pos rfl] at hB
      rw [wordsP_right hr, hr, e0] at hW
      rw [e1, hr] at hR
      rw [e1, hr, e0] at hC
      rw [← size_bytesOf s, hrd] at hL
      rw [size_bytesOf] at hl1 hl40
      simp only [size_bytesOf] at hL
      exact names_core s w (wordAt (bytesOf s)) (bucketN (bytesOf s)) s.size rfl hl40 (Nat.mod_lt _ (by decide)) hW hB hR hL hC (fun W => refWords6_any s W hl1 hl40) (fun W => refBucket_any s W h200) heq
  · have HK := Lib.hid works_any
    go_enter Try.func8, Try.ntmps8
    go_wp2_with fail
    refine (HK.out _).mono ?_
    rintro e w1 ⟨rfl, hb1⟩
    go_wp2_with fail
    go_ret
    exact ⟨rfl, hb1⟩
end Go.Proofs.Ytgkmcooahjoagaa
