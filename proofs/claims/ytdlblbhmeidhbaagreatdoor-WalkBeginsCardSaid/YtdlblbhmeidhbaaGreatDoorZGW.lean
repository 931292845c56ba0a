/- The law's num, run; the document's Ints. Conditions: none. -/
import Derived.Test.YtdlblbhmeidhbaaGreatDoorZGV
namespace Go.Proofs.YtdlblbhmeidhbaaGreatDoor
open Go.RowKit

theorem num_any (c : Int) (W : World) : Calls Tryz.prog 9 #[.int .i64 c] W fun e W' => e = .returned (.int .i64 c) ∧ W' = W := by
  go_enter Tryz.func9, Tryz.ntmps9
  go_wp2
  go_ret
  exact ⟨rfl, rfl⟩
set_option maxRecDepth 100000 in
set_option maxHeartbeats 4000000 in
theorem ints_any (xs ys : List Nat) (A B : Option Addr) (n m c d : Nat) (W : World) (hx : xs.length = n) (hy : ys.length = m) (hn : n ≤ 100000) (hm : m ≤ 100000) (hnc : n ≤ c) (hmd : m ≤ d) (h : RowAt W A (xs.map encI)) (h' : RowAt W B (ys.map encI)) :
    Calls Tryz.prog 12 #[.slice A n c, .slice B m d] W fun e W' => e = .returned (.bool (decide (xs = ys))) ∧ Below W.heap.size W W' := by
  by_cases hnm : n = m
  · subst hnm
    have HA := Lib.hid h
    have HB := Lib.hid h'
    have HX := Lib.hid hx
    have HY := Lib.hid hy
    have hnn : ((n : Int) != (n : Int)) = false := by simp
    clear h h' hx hy
    go_enter Tryz.func12, Tryz.ntmps12
    go_wp2_with fail
    go_loopw [5] (fun i wr => ∃ j : Nat, j ≤ n ∧ i = .int .i64 j ∧ Below W.heap.size W wr ∧ Hid (xs.take j = ys.take j)) (fun i _ => n - (intOf i).toNat)
    case atStart => exact ⟨0, Nat.zero_le _, rfl, Below.refl _ _, by rw [Hid, List.take_zero, List.take_zero]⟩
    case round =>
      obtain ⟨j, hj, rfl, hb, he⟩ := hrel
      by_cases hlt : j < n
      · obtain ⟨x, hxj⟩ : ∃ x, xs[j]? = some x := ⟨_, List.getElem?_eq_getElem (by rw [HX.out]; exact hlt)⟩
        obtain ⟨y, hyj⟩ : ∃ y, ys[j]? = some y := ⟨_, List.getElem?_eq_getElem (by rw [HY.out]; exact hlt)⟩
        obtain ⟨b1, o1, rfl, hb1, hc1⟩ := HA.out (by rw [List.length_map, HX.out]; omega)
        obtain ⟨b2, o2, rfl, hb2, hc2⟩ := HB.out (by rw [List.length_map, HY.out]; omega)
        have k1 : wr.cell? ⟨b1, o1 + j, none⟩ = some (.int .i64 x) := (hb.cell (p := ⟨b1, o1 + j, none⟩) hb1).trans (hc1 j _ (by rw [List.getElem?_map, hxj]; rfl))
        have k2 : wr.cell? ⟨b2, o2 + j, none⟩ = some (.int .i64 y) := (hb.cell (p := ⟨b2, o2 + j, none⟩) hb2).trans (hc2 j _ (by rw [List.getElem?_map, hyj]; rfl))
        have hj0 : (0 : Int) ≤ (j : Int) := by omega
        have hjn : (j : Int) < (n : Int) := by omega
        have hk1 : IntKind.i64.wrap ((j : Int) + 1) = ((j + 1 : Nat) : Int) := by rw [IntWalk.i64_in _ (by omega)]; omega
        have HXJ := Lib.hid hxj
        have HYJ := Lib.hid hyj
        clear hc1 hc2 hxj hyj
        by_cases hxy : x = y
        · have hne : ((x : Int) != (y : Int)) = false := by simp; omega
          go_wp2_with go_step3
          refine box_region (by kernel_rfl) (by kernel_rfl) ?_
          iterate 9
            refine box_step (fun K hK => ?_)
            go_simp
            refine hK _ ?_
            clear hK K
          refine ⟨wpStill_nil ?_⟩
          go_wp2_with fail
          go_roundw
          case rel => exact ⟨j + 1, by omega, rfl, hb.drew, by rw [Hid, List.take_add_one, List.take_add_one, he.out, HXJ.out, HYJ.out, hxy]⟩
          case measure => simp [intOf]; omega
        · have hne : ((x : Int) != (y : Int)) = true := by rw [bne_iff_ne]; omega
          have hd : decide (xs = ys) = false := decide_eq_false fun e => by
            have := HXJ.out
            rw [e, HYJ.out] at this
            exact hxy (Option.some.inj this).symm
          go_wp2_with go_step3
          refine box_region (by kernel_rfl) (by kernel_rfl) ?_
          iterate 9
            refine box_step (fun K hK => ?_)
            go_simp
            refine hK _ ?_
            clear hK K
          refine ⟨wpStill_nil ?_⟩
          go_wp2_with fail
          go_ret
          exact ⟨by rw [hd]; rfl, hb.drew⟩
      · have hjn : j = n := by omega
        subst hjn
        have hd : decide (xs = ys) = true := decide_eq_true (by
          have := he.out
          rwa [List.take_of_length_le (by rw [HX.out]; exact Nat.le_refl _), List.take_of_length_le (by rw [HY.out]; exact Nat.le_refl _)] at this)
        go_wp2_with fail
        go_ret
        exact ⟨by rw [hd]; rfl, hb⟩
  · have hd : decide (xs = ys) = false := decide_eq_false fun e => hnm (by rw [← hx, ← hy, e])
    have hne : ((n : Int) != (m : Int)) = true := by rw [bne_iff_ne]; omega
    go_enter Tryz.func12, Tryz.ntmps12
    go_wp2_with fail
    go_ret
    exact ⟨by rw [hd]; rfl, Below.refl _ _⟩
variable {FA : Option Addr} {nf cf : Nat} {fed : List Nat}
set_option maxRecDepth 100000 in
set_option maxHeartbeats 4000000 in
theorem lrun_yes (s : ByteArray) (b : Bool) (a1 a2 a3 a4 a5 a6 a7 : Int) (W : World) (hs : s.size < 4294967281) (hfl : fed.length = nf) (hnf : nf ≤ maxLen) (hx64 : ∀ x ∈ fed, x < 18446744073709551616) (hrow : RowAt W FA (fed.map encW))
    (hr : runP (bytesOf s) fed = (cellsW (.bool b) (.int .i64 a1) (.int .i64 a2) (.int .i64 a3) (.int .i64 a4) (.int .i64 a5) (.int .i64 a6) (.int .i64 a7), 0)) :
    Calls Tryz.prog 15 #[.string s, .agg #[.bool b, .int .i64 a1, .int .i64 a2, .int .i64 a3, .int .i64 a4, .int .i64 a5, .int .i64 a6, .int .i64 a7], .slice FA nf cf] W fun e W' => e = .returned (.bool true) ∧ Below W.heap.size W W' := by
  obtain ⟨W0, hW0⟩ : ∃ W0, W.alloc (.cells #[.bool b, .int .i64 a1, .int .i64 a2, .int .i64 a3, .int .i64 a4, .int .i64 a5, .int .i64 a6, .int .i64 a7] 30) = W0 := ⟨_, rfl⟩
  have hb0 : Below W.heap.size W W0 := by rw [← hW0]; exact (Below.refl _ _).alloc (Nat.le_refl _) _
  have hs0 : W0.heap.size = W.heap.size + 1 := by rw [← hW0]; simp
  have hC0 : CellsAt W0 W.heap.size 8 (cellsW (.bool b) (.int .i64 a1) (.int .i64 a2) (.int .i64 a3) (.int .i64 a4) (.int .i64 a5) (.int .i64 a6) (.int .i64 a7)) := by rw [← hW0]; exact cellsAt_new _ _ _ _ _ fun i hi => match i, hi with | 0, _ => rfl | 1, _ => rfl | 2, _ => rfl | 3, _ => rfl | 4, _ => rfl | 5, _ => rfl | 6, _ => rfl | 7, _ => rfl
  have hrn := run_any (cf := cf) s W0 hs hfl hnf hx64 (hrow.below hb0)
  rw [hr] at hrn
  have HRN := Lib.hid hrn
  have HB0 := Lib.hid hb0
  have HNM := Lib.hid (fun c W => num_any c W)
  unfold agg8 cellsW at HRN
  have hbb : (b == b) = true := by simp
  clear hrn hrow hx64 hfl hb0 hr
  go_enter Tryz.func15, Tryz.ntmps15
  go_wp2_with fail
  refine HRN.out.mono ?_
  rintro e w2 ⟨rfl, hb2⟩
  have hs2 := hb2.size
  obtain ⟨w3, hw3⟩ : ∃ w3, w2.alloc (.cells #[.bool b, .int .i64 a1, .int .i64 a2, .int .i64 a3, .int .i64 a4, .int .i64 a5, .int .i64 a6, .int .i64 a7] 30) = w3 := ⟨_, rfl⟩
  have hb3 : Below w2.heap.size w2 w3 := by rw [← hw3]; exact (Below.refl _ _).alloc (Nat.le_refl _) _
  have hC3 := (hC0.below hb2 (by omega)).below hb3 (by omega)
  have hD3 : CellsAt w3 w2.heap.size 8 (cellsW (.bool b) (.int .i64 a1) (.int .i64 a2) (.int .i64 a3) (.int .i64 a4) (.int .i64 a5) (.int .i64 a6) (.int .i64 a7)) := by rw [← hw3]; exact cellsAt_new _ _ _ _ _ fun i hi => match i, hi with | 0, _ => rfl | 1, _ => rfl | 2, _ => rfl | 3, _ => rfl | 4, _ => rfl | 5, _ => rfl | 6, _ => rfl | 7, _ => rfl
  have x0 := hC3.1 0 (by omega)
  have x1 := hC3.1 1 (by omega)
  have x2 := hC3.1 2 (by omega)
  have x3 := hC3.1 3 (by omega)
  have x4 := hC3.1 4 (by omega)
  have x5 := hC3.1 5 (by omega)
  have x6 := hC3.1 6 (by omega)
  have x7 := hC3.1 7 (by omega)
  have y0 := hD3.1 0 (by omega)
  have y1 := hD3.1 1 (by omega)
  have y2 := hD3.1 2 (by omega)
  have y3 := hD3.1 3 (by omega)
  have y4 := hD3.1 4 (by omega)
  have y5 := hD3.1 5 (by omega)
  have y6 := hD3.1 6 (by omega)
  have y7 := hD3.1 7 (by omega)
  unfold cellsW at x0 x1 x2 x3 x4 x5 x6 x7 y0 y1 y2 y3 y4 y5 y6 y7
  simp only at x0 x1 x2 x3 x4 x5 x6 x7 y0 y1 y2 y3 y4 y5 y6 y7
  have HB3 := Lib.hid ((HB0.out.trans (hb2.mono (by omega))).trans (hb3.mono (by omega)))
  clear hC0 hC3 hD3 hb2 hb3 HRN
  go_wp2_with (go_at_call 9; refine (HNM.out _ _).mono ?_; rintro e w4 ⟨rfl, rfl⟩)
  go_ret
  exact ⟨rfl, HB3.out⟩
end Go.Proofs.YtdlblbhmeidhbaaGreatDoor
