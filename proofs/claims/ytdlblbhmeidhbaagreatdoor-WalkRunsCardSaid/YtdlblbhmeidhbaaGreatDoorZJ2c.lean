/- The law WalkRuns as a call: one case. Conditions: none. -/
import Derived.Test.YtdlblbhmeidhbaaGreatDoorZJ2a
namespace Go.Proofs.YtdlblbhmeidhbaaGreatDoor
open Go.RowKit

set_option maxRecDepth 400000 in
set_option maxHeartbeats 8000000 in
theorem lruns_c (s : ByteArray) (FA : Option Addr) (fed l : List Nat) (n cA ln q r : Nat) (k : Int) (b : Bool) (a1 a2 a3 a4 a5 a6 a7 z : Int) (W : World) (hs : s.size ≤ 300) (hn : n ≤ 200) (hcase : (z == 0) = false)
    (hrow : RowAt W FA (fed.map encW)) (hl : l.length = ln) (hln : ln ≤ 201) (hmax : max 1 k = (q : Int)) (hr : min ln q = r)
    (hA : ∀ W, RowAt W FA (fed.map encW) → Calls Tryz.prog 7 #[.string s, .slice FA n cA] W fun e W' => e = .returned (.tuple #[agg8 (cellsB b a1 a2 a3 a4 a5 a6 a7), .int .i64 z]) ∧ Below W.heap.size W W')
    (hB : ∀ W, RowAt W FA (fed.map encW) → Calls Tryz.prog 8 #[.string s, .slice FA n cA] W fun e W' => e = .returned (.tuple #[agg8 (cellsB b a1 a2 a3 a4 a5 a6 a7), .int .i64 z]) ∧ Below W.heap.size W W')
    (hC : ∀ W, RowAt W FA (fed.map encW) → Calls Tryz.prog 11 #[.string s, .slice FA n cA] W fun e W' => ∃ A c, e = .returned (.slice A ln c) ∧ RowAt W' A (l.map encI) ∧ ln ≤ c ∧ c ≤ maxLen ∧ (A = none ∨ ∃ b off, A = some ⟨b, off, none⟩) ∧ Below W.heap.size W W')
    (hE : ∀ W, RowAt W FA (fed.map encW) → Calls Tryz.prog 10 #[.string s, .slice FA n cA] W fun e W' => e = .returned (.bool (z == 0 && !b)) ∧ Below W.heap.size W W')
    (hX : ∀ W, RowAt W FA (fed.map encW) → Calls Tryz.prog 13 #[.string s, .slice FA n cA, .int .i64 300] W fun e W' => ∃ A c, e = .returned (.slice A ln c) ∧ RowAt W' A ((l.take ln).map encI) ∧ ln ≤ c ∧ Below W.heap.size W W')
    (hY : ∀ W, RowAt W FA (fed.map encW) → Calls Tryz.prog 13 #[.string s, .slice FA n cA, .int .i64 q] W fun e W' => ∃ A c, e = .returned (.slice A r c) ∧ RowAt W' A ((l.take r).map encI) ∧ r ≤ c ∧ Below W.heap.size W W') :
    Calls Tryz.prog 4 #[.string s, .slice FA n cA, .int .i64 k] W fun e W' => e = .returned (.bool true) ∧ Below W.heap.size W W' := by
  have HK := Lib.hid works_any
  have HCASE := Lib.hid hcase
  clear hcase
  have h300 : decide ((300 : Int) < (s.size : Int)) = false := by simp; omega
  have h200 : decide ((200 : Int) < (n : Int)) = false := by simp; omega
  have hrl : r ≤ ln := by omega
  have hmin : min (ln : Int) (q : Int) = (r : Int) := by omega
  unfold agg8 cellsB cellsW at hA hB
  have HA := Lib.hid hA
  have HB := Lib.hid hB
  have HC := Lib.hid hC
  have HE := Lib.hid hE
  have HX := Lib.hid hX
  have HY := Lib.hid hY
  have HROW := Lib.hid hrow
  have HL := Lib.hid hl
  have HMX := Lib.hid hmax
  have HMN := Lib.hid hmin
  have HI : Hid (∀ (j : Nat) (A1 : Option Addr) (c1 : Nat) (A2 : Option Addr) (c2 : Nat) (W : World), j ≤ ln → j ≤ c1 → j ≤ c2 → RowAt W A1 ((l.take j).map encI) → RowAt W A2 ((l.take j).map encI) →
      Calls Tryz.prog 12 #[.slice A1 j c1, .slice A2 j c2] W fun e W' => e = .returned (.bool true) ∧ Below W.heap.size W W') := fun j A1 c1 A2 c2 W hj h1 h2 h3 h4 => by
    have h := ints_any (l.take j) (l.take j) A1 A2 j j c1 c2 W (by rw [List.length_take, HL.out]; omega) (by rw [List.length_take, HL.out]; omega) (by omega) (by omega) h1 h2 h3 h4
    rw [show decide (l.take j = l.take j) = true from decide_eq_true rfl] at h
    exact h
  clear hA hB hC hE hX hY hrow hl hmax hmin hr
  go_enter Tryz.func4, Tryz.ntmps4
  go_wp2_with fail
  refine (HA.out _ HROW.out).mono ?_
  rintro e w1 ⟨rfl, hb1⟩
  have HB1 := Lib.hid hb1
  have hs1 := hb1.size
  clear hb1
  have HCA := Lib.hid (cellsB_new w1 b a1 a2 a3 a4 a5 a6 a7 30)
  have HB2 := Lib.hid (HB1.out.alloc hs1 (.cells #[.bool b, .int .i64 a1, .int .i64 a2, .int .i64 a3, .int .i64 a4, .int .i64 a5, .int .i64 a6, .int .i64 a7] 30))
  have HRA2 := Lib.hid (HROW.out.below HB2.out)
  go_wp2_with fail
  refine (HB.out _ HRA2.out).mono ?_
  rintro e w5 ⟨rfl, hb5⟩
  have hs5 : w1.heap.size + 1 ≤ w5.heap.size := by have := hb5.size; simp at this; omega
  have HB5 := Lib.hid (HB2.out.trans (hb5.mono (by simp; omega)))
  have HCA5 := Lib.hid (HCA.out.below hb5 (by simp))
  clear hb5 HCA HB2 HRA2
  have HCB := Lib.hid (cellsB_new w5 b a1 a2 a3 a4 a5 a6 a7 30)
  have hb6 := (Below.refl w5.heap.size w5).alloc (Nat.le_refl _) (.cells #[.bool b, .int .i64 a1, .int .i64 a2, .int .i64 a3, .int .i64 a4, .int .i64 a5, .int .i64 a6, .int .i64 a7] 30)
  have HB6 := Lib.hid (HB5.out.trans (hb6.mono (by omega)))
  have HCA6 := Lib.hid (HCA5.out.below hb6 (by omega))
  have HRA6 := Lib.hid (HROW.out.below HB6.out)
  clear hb6
  go_wp2_with fail
  refine (HC.out _ HRA6.out).mono ?_
  rintro e w6 ⟨A, c, rfl, hrA, hlc, hcm, hAA, hb6⟩
  have hs6 : w5.heap.size + 1 ≤ w6.heap.size := by have := hb6.size; simp at this; omega
  have HCB7 := Lib.hid (HCB.out.below hb6 (by simp))
  have HCA7 := Lib.hid (HCA6.out.below hb6 (by simp; omega))
  have HB7 := Lib.hid (HB6.out.trans (hb6.mono (by simp; omega)))
  clear hb6 HCB HCA6 HB6 HRA6
  have HRX : Hid (∀ W1, Below w6.heap.size w6 W1 → RowAt W1 FA (fed.map encW)) := fun W1 h => (HROW.out.below HB7.out).below (h.mono (Nat.le_refl _))
  have HRL : Hid (∀ j W1, Below w6.heap.size w6 W1 → RowAt W1 A ((l.take j).map encI)) := fun j W1 h => by rw [List.map_take]; exact (hrA.below h).take j
  have HS : Hid (∀ W1, Below w6.heap.size w6 W1 → Below w6.heap.size w6 W1 ∧ (W1.cell? ⟨w1.heap.size, 0, none⟩ = some (.bool b) ∧ W1.cell? ⟨w1.heap.size, 1, none⟩ = some (.int .i64 a1) ∧ W1.cell? ⟨w1.heap.size, 2, none⟩ = some (.int .i64 a2) ∧ W1.cell? ⟨w1.heap.size, 3, none⟩ = some (.int .i64 a3) ∧ W1.cell? ⟨w1.heap.size, 4, none⟩ = some (.int .i64 a4) ∧ W1.cell? ⟨w1.heap.size, 5, none⟩ = some (.int .i64 a5) ∧ W1.cell? ⟨w1.heap.size, 6, none⟩ = some (.int .i64 a6) ∧ W1.cell? ⟨w1.heap.size, 7, none⟩ = some (.int .i64 a7)) ∧
      (W1.cell? ⟨w5.heap.size, 0, none⟩ = some (.bool b) ∧ W1.cell? ⟨w5.heap.size, 1, none⟩ = some (.int .i64 a1) ∧ W1.cell? ⟨w5.heap.size, 2, none⟩ = some (.int .i64 a2) ∧ W1.cell? ⟨w5.heap.size, 3, none⟩ = some (.int .i64 a3) ∧ W1.cell? ⟨w5.heap.size, 4, none⟩ = some (.int .i64 a4) ∧ W1.cell? ⟨w5.heap.size, 5, none⟩ = some (.int .i64 a5) ∧ W1.cell? ⟨w5.heap.size, 6, none⟩ = some (.int .i64 a6) ∧ W1.cell? ⟨w5.heap.size, 7, none⟩ = some (.int .i64 a7))) := fun W1 h =>
    ⟨h, (HCA7.out.below h (by omega)).eight, (HCB7.out.below h (by omega)).eight⟩
  clear hrA HCA5 HB5 HCA7 HCB7
  go_wp2_with fail
  have hb0 : Below w6.heap.size w6 w6.drew := (Below.refl _ _).drew
  have hr0 : (0 : Int) ≤ (r : Int) := by omega
  have hrc : (r : Int) ≤ (c : Int) := by omega
  have hmax := HMX.out
  have hmin := HMN.out
  have HEE := HE
  have h1 := HCASE.out
  rw [show (z == 0 && !b) = false by rw [h1]; rfl] at HEE
  clear HE
  rcases hAA with rfl | ⟨ab, ao, rfl⟩
  all_goals
    refine wp_region_noPanic ?_
    refine wp_region_held_drew (S := (fun W1 => Below w6.heap.size w6 W1 ∧ (W1.cell? ⟨w1.heap.size, 0, none⟩ = some (.bool b) ∧ W1.cell? ⟨w1.heap.size, 1, none⟩ = some (.int .i64 a1) ∧ W1.cell? ⟨w1.heap.size, 2, none⟩ = some (.int .i64 a2) ∧ W1.cell? ⟨w1.heap.size, 3, none⟩ = some (.int .i64 a3) ∧ W1.cell? ⟨w1.heap.size, 4, none⟩ = some (.int .i64 a4) ∧ W1.cell? ⟨w1.heap.size, 5, none⟩ = some (.int .i64 a5) ∧ W1.cell? ⟨w1.heap.size, 6, none⟩ = some (.int .i64 a6) ∧ W1.cell? ⟨w1.heap.size, 7, none⟩ = some (.int .i64 a7)) ∧ (W1.cell? ⟨w5.heap.size, 0, none⟩ = some (.bool b) ∧ W1.cell? ⟨w5.heap.size, 1, none⟩ = some (.int .i64 a1) ∧ W1.cell? ⟨w5.heap.size, 2, none⟩ = some (.int .i64 a2) ∧ W1.cell? ⟨w5.heap.size, 3, none⟩ = some (.int .i64 a3) ∧ W1.cell? ⟨w5.heap.size, 4, none⟩ = some (.int .i64 a4) ∧ W1.cell? ⟨w5.heap.size, 5, none⟩ = some (.int .i64 a5) ∧ W1.cell? ⟨w5.heap.size, 6, none⟩ = some (.int .i64 a6) ∧ W1.cell? ⟨w5.heap.size, 7, none⟩ = some (.int .i64 a7)))) (by kernel_rfl) ?_ (fun hH0 => ?_)
    · (try dsimp only)
      first | assumption | exact HS.out _ (by assumption)
    refine wpAnyH_take (i := 0) (v := ?_) rfl (by kernel_rfl) (by kernel_rfl) (by kernel_rfl) (fun _ _ _ h => (h : False).elim) (Or.inl ⟨by rfl, ?_⟩) (by assumption) ?_
    rotate_left
    · intro w hSw
      (try dsimp only at hSw)
      go_simp
      try with_reducible rfl
    try simp only [Act.put, List.getElem_toArray, List.getElem_cons_zero, List.getElem_cons_succ, List.setIfInBounds_toArray, List.set_cons_zero, List.set_cons_succ]
    refine wpAnyH_take (i := 1) (v := ?_) rfl (by kernel_rfl) (by kernel_rfl) (by kernel_rfl) (fun _ _ _ h => (h : False).elim) (Or.inl ⟨by rfl, ?_⟩) (by assumption) ?_
    rotate_left
    · intro w hSw
      (try dsimp only at hSw)
      go_simp
      try with_reducible rfl
    try simp only [Act.put, List.getElem_toArray, List.getElem_cons_zero, List.getElem_cons_succ, List.setIfInBounds_toArray, List.set_cons_zero, List.set_cons_succ]
    refine wpAnyH_take (i := 2) (v := ?_) rfl (by kernel_rfl) (by kernel_rfl) (by kernel_rfl) (fun _ _ _ h => (h : False).elim) (Or.inl ⟨by rfl, ?_⟩) (by assumption) ?_
    rotate_left
    · intro w hSw
      (try dsimp only at hSw)
      go_simp
      try with_reducible rfl
    try simp only [Act.put, List.getElem_toArray, List.getElem_cons_zero, List.getElem_cons_succ, List.setIfInBounds_toArray, List.set_cons_zero, List.set_cons_succ]
    refine wpAnyH_take (i := 3) (v := ?_) rfl (by kernel_rfl) (by kernel_rfl) (by kernel_rfl) (fun _ _ _ h => (h : False).elim) (Or.inl ⟨by rfl, ?_⟩) (by assumption) ?_
    rotate_left
    · intro w hSw
      (try dsimp only at hSw)
      go_simp
      try with_reducible rfl
    try simp only [Act.put, List.getElem_toArray, List.getElem_cons_zero, List.getElem_cons_succ, List.setIfInBounds_toArray, List.set_cons_zero, List.set_cons_succ]
    refine wpAnyH_take (i := 4) (v := ?_) rfl (by kernel_rfl) (by kernel_rfl) (by kernel_rfl) (fun _ _ _ h => (h : False).elim) (Or.inl ⟨by rfl, ?_⟩) (by assumption) ?_
    rotate_left
    · intro w hSw
      (try dsimp only at hSw)
      go_simp
      try with_reducible rfl
    try simp only [Act.put, List.getElem_toArray, List.getElem_cons_zero, List.getElem_cons_succ, List.setIfInBounds_toArray, List.set_cons_zero, List.set_cons_succ]
    refine wpAnyH_take (i := 6) (v := ?_) rfl (by kernel_rfl) (by kernel_rfl) (by kernel_rfl) (fun _ _ _ h => (h : False).elim) (Or.inl ⟨by rfl, ?_⟩) (by assumption) ?_
    rotate_left
    · intro w hSw
      (try dsimp only at hSw)
      go_simp
      try with_reducible rfl
    try simp only [Act.put, List.getElem_toArray, List.getElem_cons_zero, List.getElem_cons_succ, List.setIfInBounds_toArray, List.set_cons_zero, List.set_cons_succ]
    refine wpAnyH_ready (rs := [5]) (by kernel_rfl) (by simp) ?_
    refine AllReadyH.cons rfl (fun K hK => ?_) AllReadyH.nil
    go_simp
    refine (num_any _ _).mono ?_
    rintro e w9 ⟨rfl, hw9⟩
    obtain rfl := hw9.symm
    refine hK.out _ _ ?_ (fun hH1 => ?_)
    · (try dsimp only)
      first | assumption | exact HS.out _ (by assumption)
    clear hK K hH0
    try simp only [Act.put, List.getElem_toArray, List.getElem_cons_zero, List.getElem_cons_succ, List.setIfInBounds_toArray, List.set_cons_zero, List.set_cons_succ]
    refine wpAnyH_take (i := 7) (v := ?_) rfl (by kernel_rfl) (by kernel_rfl) (by kernel_rfl) (fun _ _ _ h => (h : False).elim) (Or.inl ⟨by rfl, ?_⟩) (by assumption) ?_
    rotate_left
    · intro w hSw
      (try dsimp only at hSw)
      go_simp
      try with_reducible rfl
    try simp only [Act.put, List.getElem_toArray, List.getElem_cons_zero, List.getElem_cons_succ, List.setIfInBounds_toArray, List.set_cons_zero, List.set_cons_succ]
    refine wpAnyH_take (i := 8) (v := ?_) rfl (by kernel_rfl) (by kernel_rfl) (by kernel_rfl) (fun _ _ _ h => (h : False).elim) (Or.inl ⟨by rfl, ?_⟩) (by assumption) ?_
    rotate_left
    · intro w hSw
      (try dsimp only at hSw)
      go_simp
      try with_reducible rfl
    try simp only [Act.put, List.getElem_toArray, List.getElem_cons_zero, List.getElem_cons_succ, List.setIfInBounds_toArray, List.set_cons_zero, List.set_cons_succ]
    refine wpAnyH_take (i := 9) (v := ?_) rfl (by kernel_rfl) (by kernel_rfl) (by kernel_rfl) (fun _ _ _ h => (h : False).elim) (Or.inl ⟨by rfl, ?_⟩) (by assumption) ?_
    rotate_left
    · intro w hSw
      (try dsimp only at hSw)
      go_simp
      try with_reducible rfl
    try simp only [Act.put, List.getElem_toArray, List.getElem_cons_zero, List.getElem_cons_succ, List.setIfInBounds_toArray, List.set_cons_zero, List.set_cons_succ]
    refine wpAnyH_take (i := 10) (v := ?_) rfl (by kernel_rfl) (by kernel_rfl) (by kernel_rfl) (fun _ _ _ h => (h : False).elim) (Or.inl ⟨by rfl, ?_⟩) (by assumption) ?_
    rotate_left
    · intro w hSw
      (try dsimp only at hSw)
      go_simp
      try with_reducible rfl
    try simp only [Act.put, List.getElem_toArray, List.getElem_cons_zero, List.getElem_cons_succ, List.setIfInBounds_toArray, List.set_cons_zero, List.set_cons_succ]
    refine wpAnyH_take (i := 11) (v := ?_) rfl (by kernel_rfl) (by kernel_rfl) (by kernel_rfl) (fun _ _ _ h => (h : False).elim) (Or.inl ⟨by rfl, ?_⟩) (by assumption) ?_
    rotate_left
    · intro w hSw
      (try dsimp only at hSw)
      go_simp
      try with_reducible rfl
    try simp only [Act.put, List.getElem_toArray, List.getElem_cons_zero, List.getElem_cons_succ, List.setIfInBounds_toArray, List.set_cons_zero, List.set_cons_succ]
    refine wpAnyH_take (i := 13) (v := ?_) rfl (by kernel_rfl) (by kernel_rfl) (by kernel_rfl) (fun _ _ _ h => (h : False).elim) (Or.inl ⟨by rfl, ?_⟩) (by assumption) ?_
    rotate_left
    · intro w hSw
      (try dsimp only at hSw)
      go_simp
      try with_reducible rfl
    try simp only [Act.put, List.getElem_toArray, List.getElem_cons_zero, List.getElem_cons_succ, List.setIfInBounds_toArray, List.set_cons_zero, List.set_cons_succ]
    refine wpAnyH_take (i := 14) (v := ?_) rfl (by kernel_rfl) (by kernel_rfl) (by kernel_rfl) (fun _ _ _ h => (h : False).elim) (Or.inl ⟨by rfl, ?_⟩) (by assumption) ?_
    rotate_left
    · intro w hSw
      (try dsimp only at hSw)
      go_simp
      try with_reducible rfl
    try simp only [Act.put, List.getElem_toArray, List.getElem_cons_zero, List.getElem_cons_succ, List.setIfInBounds_toArray, List.set_cons_zero, List.set_cons_succ]
    refine wpAnyH_ready (rs := [12]) (by kernel_rfl) (by simp) ?_
    refine AllReadyH.cons rfl (fun K hK => ?_) AllReadyH.nil
    go_simp
    refine (HEE.out _ (HRX.out _ (show Below w6.heap.size w6 _ ∧ _ from by assumption).1)).mono ?_
    rintro e v1 ⟨rfl, hb4⟩
    have hb4 := below_trans (show Below w6.heap.size w6 _ ∧ _ from by assumption).1 hb4
    refine hK.out _ _ ?_ (fun hH2 => ?_)
    · (try dsimp only)
      first | assumption | exact HS.out _ (by assumption)
    clear hK K hH1
    try simp only [Act.put, List.getElem_toArray, List.getElem_cons_zero, List.getElem_cons_succ, List.setIfInBounds_toArray, List.set_cons_zero, List.set_cons_succ]
    refine wpAnyH_take (i := 15) (v := ?_) rfl (by kernel_rfl) (by kernel_rfl) (by kernel_rfl) (fun _ _ _ h => (h : False).elim) (Or.inl ⟨by rfl, ?_⟩) (by assumption) ?_
    rotate_left
    · intro w hSw
      (try dsimp only at hSw)
      go_simp
      try with_reducible rfl
    try simp only [Act.put, List.getElem_toArray, List.getElem_cons_zero, List.getElem_cons_succ, List.setIfInBounds_toArray, List.set_cons_zero, List.set_cons_succ]
    refine wpAnyH_take (i := 16) (v := undef) rfl (by kernel_rfl) (by kernel_rfl) (by kernel_rfl) (fun _ _ _ h => (h : False).elim) (Or.inr ⟨by rfl, rfl⟩) (by assumption) ?_
    try simp only [Act.put, List.getElem_toArray, List.getElem_cons_zero, List.getElem_cons_succ, List.setIfInBounds_toArray, List.set_cons_zero, List.set_cons_succ]
    refine wpAnyH_take (i := 17) (v := undef) rfl (by kernel_rfl) (by kernel_rfl) (by kernel_rfl) (fun _ _ _ h => (h : False).elim) (Or.inr ⟨by rfl, rfl⟩) (by assumption) ?_
    try simp only [Act.put, List.getElem_toArray, List.getElem_cons_zero, List.getElem_cons_succ, List.setIfInBounds_toArray, List.set_cons_zero, List.set_cons_succ]
    refine wpAnyH_take (i := 18) (v := undef) rfl (by kernel_rfl) (by kernel_rfl) (by kernel_rfl) (fun _ _ _ h => (h : False).elim) (Or.inr ⟨by rfl, rfl⟩) (by assumption) ?_
    try simp only [Act.put, List.getElem_toArray, List.getElem_cons_zero, List.getElem_cons_succ, List.setIfInBounds_toArray, List.set_cons_zero, List.set_cons_succ]
    refine wpAnyH_take (i := 19) (v := ?_) rfl (by kernel_rfl) (by kernel_rfl) (by kernel_rfl) (fun _ _ _ h => (h : False).elim) (Or.inl ⟨by rfl, ?_⟩) (by assumption) ?_
    rotate_left
    · intro w hSw
      (try dsimp only at hSw)
      go_simp
      try with_reducible rfl
    try simp only [Act.put, List.getElem_toArray, List.getElem_cons_zero, List.getElem_cons_succ, List.setIfInBounds_toArray, List.set_cons_zero, List.set_cons_succ]
    refine wpAnyH_take (i := 20) (v := ?_) rfl (by kernel_rfl) (by kernel_rfl) (by kernel_rfl) (fun _ _ _ h => (h : False).elim) (Or.inl ⟨by rfl, ?_⟩) (by assumption) ?_
    rotate_left
    · intro w hSw
      (try dsimp only at hSw)
      go_simp
      try with_reducible rfl
    try simp only [Act.put, List.getElem_toArray, List.getElem_cons_zero, List.getElem_cons_succ, List.setIfInBounds_toArray, List.set_cons_zero, List.set_cons_succ]
    refine wpAnyH_take (i := 21) (v := ?_) rfl (by kernel_rfl) (by kernel_rfl) (by kernel_rfl) (fun _ _ _ h => (h : False).elim) (Or.inl ⟨by rfl, ?_⟩) (by assumption) ?_
    rotate_left
    · intro w hSw
      (try dsimp only at hSw)
      go_simp
      try with_reducible rfl
    try simp only [Act.put, List.getElem_toArray, List.getElem_cons_zero, List.getElem_cons_succ, List.setIfInBounds_toArray, List.set_cons_zero, List.set_cons_succ]
    refine wpAnyH_take (i := 22) (v := ?_) rfl (by kernel_rfl) (by kernel_rfl) (by kernel_rfl) (fun _ _ _ h => (h : False).elim) (Or.inl ⟨by rfl, ?_⟩) (by assumption) ?_
    rotate_left
    · intro w hSw
      (try dsimp only at hSw)
      go_simp
      try with_reducible rfl
    try simp only [Act.put, List.getElem_toArray, List.getElem_cons_zero, List.getElem_cons_succ, List.setIfInBounds_toArray, List.set_cons_zero, List.set_cons_succ]
    refine wpAnyH_take (i := 23) (v := ?_) rfl (by kernel_rfl) (by kernel_rfl) (by kernel_rfl) (fun _ _ _ h => (h : False).elim) (Or.inl ⟨by rfl, ?_⟩) (by assumption) ?_
    rotate_left
    · intro w hSw
      (try dsimp only at hSw)
      go_simp
      try with_reducible rfl
    try simp only [Act.put, List.getElem_toArray, List.getElem_cons_zero, List.getElem_cons_succ, List.setIfInBounds_toArray, List.set_cons_zero, List.set_cons_succ]
    refine wpAnyH_take (i := 24) (v := ?_) rfl (by kernel_rfl) (by kernel_rfl) (by kernel_rfl) (fun _ _ _ h => (h : False).elim) (Or.inl ⟨by rfl, ?_⟩) (by assumption) ?_
    rotate_left
    · intro w hSw
      (try dsimp only at hSw)
      go_simp
      try with_reducible rfl
    try simp only [Act.put, List.getElem_toArray, List.getElem_cons_zero, List.getElem_cons_succ, List.setIfInBounds_toArray, List.set_cons_zero, List.set_cons_succ]
    refine wpAnyH_take (i := 26) (v := ?_) rfl (by kernel_rfl) (by kernel_rfl) (by kernel_rfl) (fun _ _ _ h => (h : False).elim) (Or.inl ⟨by rfl, ?_⟩) (by assumption) ?_
    rotate_left
    · intro w hSw
      (try dsimp only at hSw)
      go_simp
      try with_reducible rfl
    try simp only [Act.put, List.getElem_toArray, List.getElem_cons_zero, List.getElem_cons_succ, List.setIfInBounds_toArray, List.set_cons_zero, List.set_cons_succ]
    refine wpAnyH_ready (rs := [25]) (by kernel_rfl) (by simp) ?_
    refine AllReadyH.cons rfl (fun K hK => ?_) AllReadyH.nil
    go_simp
    refine (HX.out _ (HRX.out _ (show Below w6.heap.size w6 _ ∧ _ from by assumption).1)).mono ?_
    rintro e v2 ⟨A4, c4, rfl, hr4, hk4, hb4⟩
    have hb4 := below_trans (show Below w6.heap.size w6 _ ∧ _ from by assumption).1 hb4
    refine hK.out _ _ ?_ (fun hH3 => ?_)
    · (try dsimp only)
      first | assumption | exact HS.out _ (by assumption)
    clear hK K hH2
    try simp only [Act.put, List.getElem_toArray, List.getElem_cons_zero, List.getElem_cons_succ, List.setIfInBounds_toArray, List.set_cons_zero, List.set_cons_succ]
    refine wpAnyH_ready (rs := [27]) (by kernel_rfl) (by simp) ?_
    refine AllReadyH.cons rfl (fun K hK => ?_) AllReadyH.nil
    go_simp
    refine (HI.out ln A4 c4 _ c _ (Nat.le_refl _) hk4 hlc hr4 (HRL.out _ _ (show Below w6.heap.size w6 _ ∧ _ from by assumption).1)).mono ?_
    rintro e v3 ⟨rfl, hb4⟩
    have hb4 := below_trans (show Below w6.heap.size w6 _ ∧ _ from by assumption).1 hb4
    refine hK.out _ _ ?_ (fun hH4 => ?_)
    · (try dsimp only)
      first | assumption | exact HS.out _ (by assumption)
    clear hK K hH3
    try simp only [Act.put, List.getElem_toArray, List.getElem_cons_zero, List.getElem_cons_succ, List.setIfInBounds_toArray, List.set_cons_zero, List.set_cons_succ]
    refine wpAnyH_take (i := 28) (v := ?_) rfl (by kernel_rfl) (by kernel_rfl) (by kernel_rfl) (fun _ _ _ h => (h : False).elim) (Or.inl ⟨by rfl, ?_⟩) (by assumption) ?_
    rotate_left
    · intro w hSw
      (try dsimp only at hSw)
      go_simp
      try with_reducible rfl
    try simp only [Act.put, List.getElem_toArray, List.getElem_cons_zero, List.getElem_cons_succ, List.setIfInBounds_toArray, List.set_cons_zero, List.set_cons_succ]
    refine wpAnyH_take (i := 29) (v := ?_) rfl (by kernel_rfl) (by kernel_rfl) (by kernel_rfl) (fun _ _ _ h => (h : False).elim) (Or.inl ⟨by rfl, ?_⟩) (by assumption) ?_
    rotate_left
    · intro w hSw
      (try dsimp only at hSw)
      go_simp
      try with_reducible rfl
    try simp only [Act.put, List.getElem_toArray, List.getElem_cons_zero, List.getElem_cons_succ, List.setIfInBounds_toArray, List.set_cons_zero, List.set_cons_succ]
    refine wpAnyH_take (i := 30) (v := ?_) rfl (by kernel_rfl) (by kernel_rfl) (by kernel_rfl) (fun _ _ _ h => (h : False).elim) (Or.inl ⟨by rfl, ?_⟩) (by assumption) ?_
    rotate_left
    · intro w hSw
      (try dsimp only at hSw)
      go_simp
      try with_reducible rfl
    try simp only [Act.put, List.getElem_toArray, List.getElem_cons_zero, List.getElem_cons_succ, List.setIfInBounds_toArray, List.set_cons_zero, List.set_cons_succ]
    refine wpAnyH_take (i := 31) (v := ?_) rfl (by kernel_rfl) (by kernel_rfl) (by kernel_rfl) (fun _ _ _ h => (h : False).elim) (Or.inl ⟨by rfl, ?_⟩) (by assumption) ?_
    rotate_left
    · intro w hSw
      (try dsimp only at hSw)
      go_simp
      try with_reducible rfl
    try simp only [Act.put, List.getElem_toArray, List.getElem_cons_zero, List.getElem_cons_succ, List.setIfInBounds_toArray, List.set_cons_zero, List.set_cons_succ]
    refine wpAnyH_take (i := 32) (v := ?_) rfl (by kernel_rfl) (by kernel_rfl) (by kernel_rfl) (fun _ _ _ h => (h : False).elim) (Or.inl ⟨by rfl, ?_⟩) (by assumption) ?_
    rotate_left
    · intro w hSw
      (try dsimp only at hSw)
      go_simp
      try with_reducible rfl
    try simp only [Act.put, List.getElem_toArray, List.getElem_cons_zero, List.getElem_cons_succ, List.setIfInBounds_toArray, List.set_cons_zero, List.set_cons_succ]
    refine wpAnyH_take (i := 35) (v := ?_) rfl (by kernel_rfl) (by kernel_rfl) (by kernel_rfl) (fun _ _ _ h => (h : False).elim) (Or.inl ⟨by rfl, ?_⟩) (by assumption) ?_
    rotate_left
    · intro w hSw
      (try dsimp only at hSw)
      go_simp
      try with_reducible rfl
    try simp only [Act.put, List.getElem_toArray, List.getElem_cons_zero, List.getElem_cons_succ, List.setIfInBounds_toArray, List.set_cons_zero, List.set_cons_succ]
    refine wpAnyH_take (i := 36) (v := ?_) rfl (by kernel_rfl) (by kernel_rfl) (by kernel_rfl) (fun _ _ _ h => (h : False).elim) (Or.inl ⟨by rfl, ?_⟩) (by assumption) ?_
    rotate_left
    · intro w hSw
      (try dsimp only at hSw)
      go_simp
      try with_reducible rfl
    try simp only [Act.put, List.getElem_toArray, List.getElem_cons_zero, List.getElem_cons_succ, List.setIfInBounds_toArray, List.set_cons_zero, List.set_cons_succ]
    refine wpAnyH_take (i := 37) (v := ?_) rfl (by kernel_rfl) (by kernel_rfl) (by kernel_rfl) (fun _ _ _ h => (h : False).elim) (Or.inl ⟨by rfl, ?_⟩) (by assumption) ?_
    rotate_left
    · intro w hSw
      (try dsimp only at hSw)
      go_simp
      try with_reducible rfl
    try simp only [Act.put, List.getElem_toArray, List.getElem_cons_zero, List.getElem_cons_succ, List.setIfInBounds_toArray, List.set_cons_zero, List.set_cons_succ]
    refine wpAnyH_take (i := 38) (v := ?_) rfl (by kernel_rfl) (by kernel_rfl) (by kernel_rfl) (fun _ _ _ h => (h : False).elim) (Or.inl ⟨by rfl, ?_⟩) (by assumption) ?_
    rotate_left
    · intro w hSw
      (try dsimp only at hSw)
      go_simp
      try with_reducible rfl
    try simp only [Act.put, List.getElem_toArray, List.getElem_cons_zero, List.getElem_cons_succ, List.setIfInBounds_toArray, List.set_cons_zero, List.set_cons_succ]
    refine wpAnyH_take (i := 33) (v := ?_) rfl (by kernel_rfl) (by kernel_rfl) (by kernel_rfl) (fun _ _ _ h => (h : False).elim) (Or.inl ⟨by rfl, ?_⟩) (by assumption) ?_
    rotate_left
    · intro w hSw
      (try dsimp only at hSw)
      go_simp
      try with_reducible rfl
    try simp only [Act.put, List.getElem_toArray, List.getElem_cons_zero, List.getElem_cons_succ, List.setIfInBounds_toArray, List.set_cons_zero, List.set_cons_succ]
    refine wpAnyH_take (i := 39) (v := ?_) rfl (by kernel_rfl) (by kernel_rfl) (by kernel_rfl) (fun _ _ _ h => (h : False).elim) (Or.inl ⟨by rfl, ?_⟩) (by assumption) ?_
    rotate_left
    · intro w hSw
      (try dsimp only at hSw)
      go_simp
      try with_reducible rfl
    try simp only [Act.put, List.getElem_toArray, List.getElem_cons_zero, List.getElem_cons_succ, List.setIfInBounds_toArray, List.set_cons_zero, List.set_cons_succ]
    refine wpAnyH_take (i := 40) (v := ?_) rfl (by kernel_rfl) (by kernel_rfl) (by kernel_rfl) (fun _ _ _ h => (h : False).elim) (Or.inl ⟨by rfl, ?_⟩) (by assumption) ?_
    rotate_left
    · intro w hSw
      (try dsimp only at hSw)
      go_simp
      try with_reducible rfl
    try simp only [Act.put, List.getElem_toArray, List.getElem_cons_zero, List.getElem_cons_succ, List.setIfInBounds_toArray, List.set_cons_zero, List.set_cons_succ]
    refine wpAnyH_take (i := 41) (v := ?_) rfl (by kernel_rfl) (by kernel_rfl) (by kernel_rfl) (fun _ _ _ h => (h : False).elim) (Or.inl ⟨by rfl, ?_⟩) (by assumption) ?_
    rotate_left
    · intro w hSw
      (try dsimp only at hSw)
      go_simp
      try with_reducible rfl
    try simp only [Act.put, List.getElem_toArray, List.getElem_cons_zero, List.getElem_cons_succ, List.setIfInBounds_toArray, List.set_cons_zero, List.set_cons_succ]
    refine wpAnyH_ready (rs := [34]) (by kernel_rfl) (by simp) ?_
    refine AllReadyH.cons rfl (fun K hK => ?_) AllReadyH.nil
    go_simp
    refine (HY.out _ (HRX.out _ (show Below w6.heap.size w6 _ ∧ _ from by assumption).1)).mono ?_
    rintro e v4 ⟨A7, c7, rfl, hr7, hk7, hb4⟩
    have hb4 := below_trans (show Below w6.heap.size w6 _ ∧ _ from by assumption).1 hb4
    refine hK.out _ _ ?_ (fun hH5 => ?_)
    · (try dsimp only)
      first | assumption | exact HS.out _ (by assumption)
    clear hK K hH4
    try simp only [Act.put, List.getElem_toArray, List.getElem_cons_zero, List.getElem_cons_succ, List.setIfInBounds_toArray, List.set_cons_zero, List.set_cons_succ]
    refine wpAnyH_ready (rs := [42]) (by kernel_rfl) (by simp) ?_
    refine AllReadyH.cons rfl (fun K hK => ?_) AllReadyH.nil
    go_simp
    refine (HI.out r A7 c7 _ c _ hrl hk7 (Nat.le_trans hrl hlc) hr7 (HRL.out _ _ (show Below w6.heap.size w6 _ ∧ _ from by assumption).1)).mono ?_
    rintro e v5 ⟨rfl, hb4⟩
    have hb4 := below_trans (show Below w6.heap.size w6 _ ∧ _ from by assumption).1 hb4
    refine hK.out _ _ ?_ (fun hH6 => ?_)
    · (try dsimp only)
      first | assumption | exact HS.out _ (by assumption)
    clear hK K hH5
    try simp only [Act.put, List.getElem_toArray, List.getElem_cons_zero, List.getElem_cons_succ, List.setIfInBounds_toArray, List.set_cons_zero, List.set_cons_succ]
    refine wpAnyH_take (i := 43) (v := ?_) rfl (by kernel_rfl) (by kernel_rfl) (by kernel_rfl) (fun _ _ _ h => (h : False).elim) (Or.inl ⟨by rfl, ?_⟩) (by assumption) ?_
    rotate_left
    · intro w hSw
      (try dsimp only at hSw)
      go_simp
      try with_reducible rfl
    try simp only [Act.put, List.getElem_toArray, List.getElem_cons_zero, List.getElem_cons_succ, List.setIfInBounds_toArray, List.set_cons_zero, List.set_cons_succ]
    refine wpAnyH_take (i := 44) (v := ?_) rfl (by kernel_rfl) (by kernel_rfl) (by kernel_rfl) (fun _ _ _ h => (h : False).elim) (Or.inl ⟨by rfl, ?_⟩) (by assumption) ?_
    rotate_left
    · intro w hSw
      (try dsimp only at hSw)
      go_simp
      try with_reducible rfl
    try simp only [Act.put, List.getElem_toArray, List.getElem_cons_zero, List.getElem_cons_succ, List.setIfInBounds_toArray, List.set_cons_zero, List.set_cons_succ]
    refine wpAnyH_ready (rs := [45]) (by kernel_rfl) (by simp) ?_
    refine AllReadyH.cons rfl (fun K hK => ?_) AllReadyH.nil
    go_simp
    refine (HK.out _).mono ?_
    rintro e v6 ⟨rfl, hb4⟩
    have hb4 := below_trans (show Below w6.heap.size w6 _ ∧ _ from by assumption).1 hb4
    refine hK.out _ _ ?_ (fun hH7 => ?_)
    · (try dsimp only)
      first | assumption | exact HS.out _ (by assumption)
    clear hK K hH6
    try simp only [Act.put, List.getElem_toArray, List.getElem_cons_zero, List.getElem_cons_succ, List.setIfInBounds_toArray, List.set_cons_zero, List.set_cons_succ]
    refine wpAnyH_take (i := 46) (v := ?_) rfl (by kernel_rfl) (by kernel_rfl) (by kernel_rfl) (fun _ _ _ h => (h : False).elim) (Or.inl ⟨by rfl, ?_⟩) (by assumption) ?_
    rotate_left
    · intro w hSw
      (try dsimp only at hSw)
      go_simp
      try with_reducible rfl
    try simp only [Act.put, List.getElem_toArray, List.getElem_cons_zero, List.getElem_cons_succ, List.setIfInBounds_toArray, List.set_cons_zero, List.set_cons_succ]
    refine wpAnyH_take (i := 47) (v := ?_) rfl (by kernel_rfl) (by kernel_rfl) (by kernel_rfl) (fun _ _ _ h => (h : False).elim) (Or.inl ⟨by rfl, ?_⟩) (by assumption) ?_
    rotate_left
    · intro w hSw
      (try dsimp only at hSw)
      go_simp
      try with_reducible rfl
    try simp only [Act.put, List.getElem_toArray, List.getElem_cons_zero, List.getElem_cons_succ, List.setIfInBounds_toArray, List.set_cons_zero, List.set_cons_succ]
    refine wpAnyH_done (by kernel_rfl) ?_ _
    refine NoPanic.normal ?_
    go_wp2_with fail
    go_ret
    exact ⟨rfl, HB7.out.trans (hb4.mono (by omega))⟩
end Go.Proofs.YtdlblbhmeidhbaaGreatDoor
