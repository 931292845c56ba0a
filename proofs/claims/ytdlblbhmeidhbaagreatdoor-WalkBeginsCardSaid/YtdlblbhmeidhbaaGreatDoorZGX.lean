/- The chapter's rows are met. Conditions: none. -/
import Derived.Test.YtdlblbhmeidhbaaGreatDoorZGW
namespace Go.Proofs.YtdlblbhmeidhbaaGreatDoor
open Go.RowKit

theorem rowAt_fresh (W : World) (cs : Array Value) (T : TypeId) (l : List Value) (h : cs.toList = l) : RowAt (W.alloc (.cells cs T)) (some ⟨W.heap.size, 0, none⟩) l := fun _ =>
  ⟨W.heap.size, 0, rfl, by simp, fun k u hu => by rw [Nat.zero_add]; exact cell_new W cs T k u (by rw [← h] at hu; simpa using hu)⟩
theorem row0 : runP [47] [] = (cellsW (.bool true) (.int .i64 1) (.int .i64 0) (.int .i64 0) (.int .i64 0) (.int .i64 0) (.int .i64 0) (.int .i64 0), 0) := by kernel_rfl
theorem row1 : runP [47] [4] = (cellsW (.bool true) (.int .i64 32) (.int .i64 0) (.int .i64 0) (.int .i64 0) (.int .i64 0) (.int .i64 0) (.int .i64 0), 0) := by kernel_rfl
theorem row2 : runP [47] [4, 258, 5] = (cellsW (.bool false) (.int .i64 0) (.int .i64 3) (.int .i64 0) (.int .i64 4) (.int .i64 2) (.int .i64 1) (.int .i64 5), 0) := by kernel_rfl
theorem row3 : runP [47] [0] = (cellsW (.bool false) (.int .i64 0) (.int .i64 1) (.int .i64 300) (.int .i64 0) (.int .i64 0) (.int .i64 0) (.int .i64 0), 0) := by kernel_rfl
theorem row4 : runP [47, 97, 98] [4, 258, 5, 0] = (cellsW (.bool false) (.int .i64 0) (.int .i64 4) (.int .i64 202) (.int .i64 0) (.int .i64 0) (.int .i64 0) (.int .i64 0), 0) := by kernel_rfl
theorem row5 : runP [47, 97, 98] [4, 257, 5] = (cellsW (.bool false) (.int .i64 0) (.int .i64 3) (.int .i64 201) (.int .i64 0) (.int .i64 0) (.int .i64 0) (.int .i64 0), 0) := by kernel_rfl
set_option maxRecDepth 100000 in
set_option maxHeartbeats 8000000 in
theorem works_any (W : World) : Calls Tryz.prog 6 #[] W fun e W' => e = .returned (.bool true) ∧ Below W.heap.size W W' := by
  have hb0 : Below W.heap.size W (W.alloc (.cells #[.int .i64 2, .int .i64 1, .int .i64 5] 28)) := (Below.refl _ _).alloc (Nat.le_refl _) _
  obtain ⟨W0, hW0⟩ : ∃ W0, W.alloc (.cells #[.int .i64 2, .int .i64 1, .int .i64 5] 28) = W0 := ⟨_, rfl⟩
  have HD : Hid (∀ w, Below W0.heap.size W0 w → Hid (w.cell? ⟨W.heap.size, 0, none⟩ = some (.int .i64 2) ∧ w.cell? ⟨W.heap.size, 1, none⟩ = some (.int .i64 1) ∧ w.cell? ⟨W.heap.size, 2, none⟩ = some (.int .i64 5))) := fun w hw => by
    have hs : W0.heap.size = W.heap.size + 1 := by rw [← hW0]; simp
    refine ⟨(hw.cell (p := ⟨W.heap.size, 0, none⟩) (by show W.heap.size < _; omega)).trans ?_, (hw.cell (p := ⟨W.heap.size, 1, none⟩) (by show W.heap.size < _; omega)).trans ?_, (hw.cell (p := ⟨W.heap.size, 2, none⟩) (by show W.heap.size < _; omega)).trans ?_⟩
    · rw [← hW0]; exact cell_new W _ _ 0 _ rfl
    · rw [← hW0]; exact cell_new W _ _ 1 _ rfl
    · rw [← hW0]; exact cell_new W _ _ 2 _ rfl
  rw [hW0] at hb0
  have HB0 := Lib.hid hb0
  clear hb0
  go_enter Tryz.func6, Tryz.ntmps6
  go_wp2_with fail
  refine (lrun_yes (FA := none) (nf := 0) (cf := 0) (fed := []) ⟨#[47]⟩ true 1 0 0 0 0 0 0 W0 (by decide) rfl (by decide) (by simp) RowAt.nil row0).mono ?_
  rintro e w1 ⟨rfl, hb1⟩
  have HB1 := Lib.hid hb1
  clear hb1
  have hr1 := rowAt_fresh w1 #[.int .u64 4] 23 ([4].map encW) rfl
  go_wp2_with fail
  refine (lrun_yes (nf := 1) (cf := 1) (fed := [4]) ⟨#[47]⟩ true 32 0 0 0 0 0 0 _ (by decide) rfl (by decide) (by decide) hr1 row1).mono ?_
  rintro e w2 ⟨rfl, hb⟩
  have HB2 : Hid (Below W0.heap.size W0 w2) := (HB1.out.alloc HB1.out.size _).trans (hb.mono (by have := HB1.out.size; simp; omega))
  clear hb hr1
  obtain ⟨d0, d1, d2⟩ := (HD.out w2 HB2.out).out
  have hr2 := rowAt_fresh w2 #[.int .u64 4, .int .u64 258, .int .u64 5] 23 ([4, 258, 5].map encW) rfl
  go_wp2_with fail
  refine (lrun_yes (nf := 3) (cf := 3) (fed := [4, 258, 5]) ⟨#[47]⟩ false 0 3 0 4 2 1 5 _ (by decide) rfl (by decide) (by decide) hr2 row2).mono ?_
  rintro e w3 ⟨rfl, hb⟩
  have HB3 : Hid (Below W0.heap.size W0 w3) := (HB2.out.alloc HB2.out.size _).trans (hb.mono (by have := HB2.out.size; simp; omega))
  clear hb hr2
  clear d0 d1 d2
  have hr3 := rowAt_fresh w3 #[.int .u64 0] 23 ([0].map encW) rfl
  go_wp2_with fail
  refine (lrun_yes (nf := 1) (cf := 1) (fed := [0]) ⟨#[47]⟩ false 0 1 300 0 0 0 0 _ (by decide) rfl (by decide) (by decide) hr3 row3).mono ?_
  rintro e w4 ⟨rfl, hb⟩
  have HB4 : Hid (Below W0.heap.size W0 w4) := (HB3.out.alloc HB3.out.size _).trans (hb.mono (by have := HB3.out.size; simp; omega))
  clear hb hr3
  have hr4 := rowAt_fresh w4 #[.int .u64 4, .int .u64 258, .int .u64 5, .int .u64 0] 23 ([4, 258, 5, 0].map encW) rfl
  go_wp2_with fail
  refine (lrun_yes (nf := 4) (cf := 4) (fed := [4, 258, 5, 0]) ⟨#[47, 97, 98]⟩ false 0 4 202 0 0 0 0 _ (by decide) rfl (by decide) (by decide) hr4 row4).mono ?_
  rintro e w5 ⟨rfl, hb⟩
  have HB5 : Hid (Below W0.heap.size W0 w5) := (HB4.out.alloc HB4.out.size _).trans (hb.mono (by have := HB4.out.size; simp; omega))
  clear hb hr4
  have hr5 := rowAt_fresh w5 #[.int .u64 4, .int .u64 257, .int .u64 5] 23 ([4, 257, 5].map encW) rfl
  go_wp2_with fail
  refine (lrun_yes (nf := 3) (cf := 3) (fed := [4, 257, 5]) ⟨#[47, 97, 98]⟩ false 0 3 201 0 0 0 0 _ (by decide) rfl (by decide) (by decide) hr5 row5).mono ?_
  rintro e w6 ⟨rfl, hb⟩
  have HB6 : Hid (Below W0.heap.size W0 w6) := (HB5.out.alloc HB5.out.size _).trans (hb.mono (by have := HB5.out.size; simp; omega))
  clear hb hr5
  go_wp2_with fail
  go_ret
  exact ⟨rfl, HB0.out.trans (HB6.out.mono HB0.out.size)⟩
end Go.Proofs.YtdlblbhmeidhbaaGreatDoor
