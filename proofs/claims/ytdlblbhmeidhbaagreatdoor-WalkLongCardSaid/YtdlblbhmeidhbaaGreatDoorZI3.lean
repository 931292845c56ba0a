/- The contract of the document's Root. Conditions: none. -/
import Derived.Test.YtdlblbhmeidhbaaGreatDoorZI2
import Derived.RegionTactic
import Derived.ChangeAlike
namespace Go.Proofs.YtdlblbhmeidhbaaGreatDoor
open Go.RowKit

def encRt (r : Nat × (Nat × Nat × Nat) × Bool) : Value := .tuple #[.int .i64 r.1, encNd r.2.1, .bool r.2.2]
variable {R : Nat} {FA : Option Addr} {nf cf : Nat} {fed : List Nat} {st : RSt}
set_option maxRecDepth 100000 in
set_option maxHeartbeats 3000000 in
theorem rootR_any (W : World) (hl : st.1.length ≤ 90000) (hnf : nf ≤ 100000) (hx64 : ∀ x ∈ fed, x < 18446744073709551616) (h : RfAt R FA nf cf fed st W) :
    Calls Tryz.prog 33 #[.pointer (some ⟨R, 0, none⟩)] W fun e W' => e = .returned (encRt (rootR fed st).1) ∧ RfAt R FA nf cf fed (rootR fed st).2 W' ∧ RB R W.heap.size W W' := by
  have HE : Hid (rootR fed st = if (loadR fed 1 st).1 = 0 ∨ 1023 < (loadR fed 1 st).1 then ((0, (0, 0, 0), false), (loadR fed 1 st).2)
    else (((loadR fed 1 st).1, (enterR fed (loadR fed 1 st).1 (loadR fed 1 st).2).1), (enterR fed (loadR fed 1 st).1 (loadR fed 1 st).2).2)) := rfl
  have hL1 := loadR_len fed 1 st
  have hk := loadR_lt hx64 1 st
  obtain ⟨W0, hW0⟩ : ∃ W0, W.alloc (.cells #[.int .i64 0, .int .i64 0, .int .i64 0] 28) = W0 := ⟨_, rfl⟩
  have hb0 : Below W.heap.size W W0 := by rw [← hW0]; exact (Below.refl _ _).alloc (Nat.le_refl _) _
  have hs0 : W0.heap.size = W.heap.size + 1 := by rw [← hW0]; simp
  have hRl := h.rd.lt
  have hI : CellsAt W0 W.heap.size 3 (fun _ => .int .i64 0) := by
    rw [← hW0]
    exact cellsAt_new _ _ _ _ _ fun i hi => match i, hi with | 0, _ => rfl | 1, _ => rfl | 2, _ => rfl
  have hF0 := h.rd.free_new hb0 (Nat.le_refl W.heap.size)
  have HB0 := Lib.hid (RB.of_below hb0 hRl)
  have h0 := h.below hb0
  have HL1 := Lib.hid (loadR_any 1 1 W0 rfl (by omega) hnf hx64 h0)
  have HL2 := Lib.hid (fun (x : Nat) (W1 : World) (hx : x < 1024) (h1 : RfAt R FA nf cf fed (loadR fed 1 st).2 W1) => enterR_any x (x : Int) W1 rfl hx (by omega) hnf hx64 h1)
  clear h h0 hb0 hx64 hL1
  generalize loadR fed 1 st = r1 at *
  obtain ⟨x, st1⟩ := r1
  simp only at *
  by_cases hbad : x = 0 ∨ 1023 < x
  · have HE1 : Hid (rootR fed st = ((0, (0, 0, 0), false), st1)) := by rw [Hid, HE.out, if_pos hbad]
    have hx2 : ((x : Int) == 0) = true ∨ (((x : Int) == 0) = false ∧ decide ((1023 : Int) < (x : Int)) = true) := by
      by_cases h0 : x = 0
      · exact .inl (by simp [h0])
      · exact .inr ⟨by simp [h0], by simp; omega⟩
    have HX2 := Lib.hid hx2
    clear hx2 hbad
    rcases HX2.out with hx2 | ⟨hx2, hx3⟩
    all_goals
      go_enter Tryz.func33, Tryz.ntmps33
      go_wp2_with fail
      refine HL1.out.mono ?_
      rintro e w1 ⟨rfl, h1, hb1⟩
      have hI1 := hI.rb hb1 (by omega) hF0
      have hF1 := (hb1.keep W.heap.size (by omega) hF0).2
      have HB1 := Lib.hid (HB0.out.trans (hb1.mono (by omega)))
      have H1 : Hid (RfAt R FA nf cf fed st1 (put3 w1 W.heap.size 0 0 0)) := h1.put3 hF1 (by omega)
      have HB2 : Hid (RB R W.heap.size W (put3 w1 W.heap.size 0 0 0)) := HB1.out.put3 (Nat.le_refl _) hF1.1
      have y0 := hI1.1 0 (by omega)
      have y1 := hI1.1 1 (by omega)
      have y2 := hI1.1 2 (by omega)
      have z0 := hI1.2 0
      have z1 := hI1.2 1
      have z2 := hI1.2 2
      simp only at y0 y1 y2 z0 z1 z2
      unfold put3 at H1 HB2
      clear hI1 hF1 hb1 h1 hI hF0
      go_wp2_with fail
      rw [HE1.out]
      refine bodyPost_ret (v := encRt (0, (0, 0, 0), false)) (by simp [results, Tryz.results33, go_sem, y0, y1, y2, z0, z1, z2, encRt, encNd, encN]) rfl ?_
      exact ⟨rfl, H1.out, HB2.out⟩
  · have HE1 : Hid (rootR fed st = ((x, (enterR fed x st1).1), (enterR fed x st1).2)) := by rw [Hid, HE.out, if_neg hbad]
    have hx2 : ((x : Int) == 0) = false := by simp; omega
    have hx3 : decide ((1023 : Int) < (x : Int)) = false := by simp; omega
    have hw : IntKind.i64.wrap (x : Int) = (x : Int) := IntWalk.i64_in _ (by omega)
    have HL2 := Lib.hid (fun W1 => HL2.out x W1 (by omega))
    generalize enterR fed x st1 = r2 at *
    obtain ⟨⟨n, b⟩, st2⟩ := r2
    clear hbad
    have HEV : Hid (encNd n = .agg #[.int .i64 n.1, .int .i64 n.2.1, .int .i64 n.2.2]) := rfl
    simp only at *
    rw [HEV.out] at HL2
    go_enter Tryz.func33, Tryz.ntmps33
    go_wp2_with fail
    refine HL1.out.mono ?_
    rintro e w1 ⟨rfl, h1, hb1⟩
    have hI1 := hI.rb hb1 (by omega) hF0
    have hF1 := (hb1.keep W.heap.size (by omega) hF0).2
    have HB1 := Lib.hid (HB0.out.trans (hb1.mono (by omega)))
    have hs1 := hb1.size
    clear hI hF0 hb1
    go_wp2_with fail
    refine (HL2.out _ h1).mono ?_
    rintro e w2 ⟨rfl, h2, hb2⟩
    have hI2 := hI1.rb hb2 (by omega) hF1
    have hF2 := (hb2.keep W.heap.size (by omega) hF1).2
    have HB2 := Lib.hid (HB1.out.trans (hb2.mono (by omega)))
    have hs2 := hb2.size
    clear hI1 hF1 hb2 h1
    obtain ⟨w3, hw3⟩ : ∃ w3, w2.alloc (.cells #[.int .i64 n.1, .int .i64 n.2.1, .int .i64 n.2.2] 28) = w3 := ⟨_, rfl⟩
    have hb3 : Below w2.heap.size w2 w3 := by rw [← hw3]; exact (Below.refl _ _).alloc (Nat.le_refl _) _
    have u0 : w3.cell? ⟨w2.heap.size, 0, none⟩ = some (.int .i64 n.1) := by rw [← hw3]; exact cell_new w2 _ _ 0 _ rfl
    have u1 : w3.cell? ⟨w2.heap.size, 1, none⟩ = some (.int .i64 n.2.1) := by rw [← hw3]; exact cell_new w2 _ _ 1 _ rfl
    have u2 : w3.cell? ⟨w2.heap.size, 2, none⟩ = some (.int .i64 n.2.2) := by rw [← hw3]; exact cell_new w2 _ _ 2 _ rfl
    have hI3 := hI2.below hb3 (by omega)
    have hF3 := freeAt_below hb3 h2.rd.lt hF2
    have h3 := h2.below hb3
    have HB3 := Lib.hid (HB2.out.trans ((RB.of_below hb3 h2.rd.lt).mono (by omega)))
    go_wp2_with fail
    clear hw3 hb3 h2 hI2 hF2
    have y0 := hI3.1 0 (by omega)
    have y1 := hI3.1 1 (by omega)
    have y2 := hI3.1 2 (by omega)
    have z0 := hI3.2 0
    have z1 := hI3.2 1
    have z2 := hI3.2 2
    have H5 : Hid (RfAt R FA nf cf fed st2 (put3 w3 W.heap.size n.1 n.2.1 n.2.2)) := h3.put3 hF3 (by omega)
    have HB5 : Hid (RB R W.heap.size W (put3 w3 W.heap.size n.1 n.2.1 n.2.2)) := HB3.out.put3 (Nat.le_refl _) hF3.1
    unfold put3 at H5 HB5
    clear hI3 hF3 h3
    go_region
    all_goals
      go_wp2_with fail
      rw [HE1.out]
      refine bodyPost_ret (v := encRt (x, n, b)) (by simp [results, Tryz.results33, go_sem, y0, y1, y2, z0, z1, z2, encRt, encNd, encN]) rfl ?_
      exact ⟨rfl, H5.out.drew', HB5.out.trans (RB.drew' _ _ _)⟩
end Go.Proofs.YtdlblbhmeidhbaaGreatDoor
