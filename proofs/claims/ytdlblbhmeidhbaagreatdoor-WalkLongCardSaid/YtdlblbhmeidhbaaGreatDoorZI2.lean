/- The contracts of the document's Enter and Root. Conditions: none. -/
import Derived.Test.YtdlblbhmeidhbaaGreatDoorZI1
namespace Go.Proofs.YtdlblbhmeidhbaaGreatDoor
open Go.RowKit

def enterR (fed : List Nat) (line : Nat) (st : RSt) : ((Nat × Nat × Nat) × Bool) × RSt :=
  (getN (loadR fed (line * 8) st).1 (loadR fed (line * 8 + 1) (loadR fed (line * 8) st).2).1, (loadR fed (line * 8 + 1) (loadR fed (line * 8) st).2).2)
def rootR (fed : List Nat) (st : RSt) : (Nat × (Nat × Nat × Nat) × Bool) × RSt :=
  if (loadR fed 1 st).1 = 0 ∨ 1023 < (loadR fed 1 st).1 then ((0, (0, 0, 0), false), (loadR fed 1 st).2)
  else (((loadR fed 1 st).1, (enterR fed (loadR fed 1 st).1 (loadR fed 1 st).2).1), (enterR fed (loadR fed 1 st).1 (loadR fed 1 st).2).2)
theorem enterR_len (fed : List Nat) (line : Nat) (st : RSt) : (enterR fed line st).2.1.length ≤ st.1.length + 2 := by
  have h1 := loadR_len fed (line * 8) st
  have h2 := loadR_len fed (line * 8 + 1) (loadR fed (line * 8) st).2
  show (loadR fed (line * 8 + 1) (loadR fed (line * 8) st).2).2.1.length ≤ _
  omega
theorem rootR_len (fed : List Nat) (st : RSt) : (rootR fed st).2.1.length ≤ st.1.length + 3 := by
  have h1 := loadR_len fed 1 st
  have h2 := enterR_len fed (loadR fed 1 st).1 (loadR fed 1 st).2
  unfold rootR
  split
  · show (loadR fed 1 st).2.1.length ≤ _; omega
  · show (enterR fed (loadR fed 1 st).1 (loadR fed 1 st).2).2.1.length ≤ _; omega
/-- Three cells that are not frozen. -/
def Thaw3 (W : World) (X : Nat) : Prop := W.frozen? ⟨X, 0, none⟩ = false ∧ W.frozen? ⟨X, 1, none⟩ = false ∧ W.frozen? ⟨X, 2, none⟩ = false
def zeros8 : Nat → Value := fun _ => .int .u64 0
variable {R : Nat} {FA : Option Addr} {nf cf : Nat} {fed : List Nat} {st : RSt}
theorem RfAt.put3 {W : World} {X : Nat} {a b c : Int} (h : RfAt R FA nf cf fed st W) (hf : FreeAt R W X) (hR : R ≤ X) : RfAt R FA nf cf fed st (put3 W X a b c) :=
  ((h.set hf hR).set (hf.set hf.1) hR).set ((hf.set hf.1).set hf.1) hR
set_option maxRecDepth 100000 in
set_option maxHeartbeats 3000000 in
theorem enterR_any (line : Nat) (q : Int) (W : World) (hq : q = (line : Int)) (hln : line < 1024) (hl : st.1.length ≤ 99000) (hnf : nf ≤ 100000) (hx64 : ∀ x ∈ fed, x < 18446744073709551616) (h : RfAt R FA nf cf fed st W) :
    Calls Tryz.prog 35 #[.pointer (some ⟨R, 0, none⟩), .int .i64 q] W fun e W' => e = .returned (.tuple #[encNd (enterR fed line st).1.1, .bool (enterR fed line st).1.2]) ∧ RfAt R FA nf cf fed (enterR fed line st).2 W' ∧ RB R W.heap.size W W' := by
  subst hq
  have HE : Hid ((enterR fed line st) = (getN (loadR fed (line * 8) st).1 (loadR fed (line * 8 + 1) (loadR fed (line * 8) st).2).1, (loadR fed (line * 8 + 1) (loadR fed (line * 8) st).2).2)) := rfl
  have hL1 := loadR_len fed (line * 8) st
  have hk := loadR_lt hx64 (line * 8) st
  have ht := loadR_lt hx64 (line * 8 + 1) (loadR fed (line * 8) st).2
  obtain ⟨W0, hW0⟩ : ∃ W0, (W.alloc (.cells #[.int .i64 0, .int .i64 0, .int .i64 0] 28)).alloc (.cells #[.int .u64 0, .int .u64 0, .int .u64 0, .int .u64 0, .int .u64 0, .int .u64 0, .int .u64 0, .int .u64 0] 107) = W0 := ⟨_, rfl⟩
  have hb0 : Below W.heap.size W W0 := by rw [← hW0]; exact ((Below.refl _ _).alloc (Nat.le_refl _) _).alloc (by simp) _
  have hs0 : W0.heap.size = W.heap.size + 2 := by rw [← hW0]; simp
  have hRl := h.rd.lt
  have hI : CellsAt W0 W.heap.size 3 (fun _ => .int .i64 0) := by
    have h1 : CellsAt (W.alloc (.cells #[.int .i64 0, .int .i64 0, .int .i64 0] 28)) W.heap.size 3 (fun _ => .int .i64 0) := cellsAt_new _ _ _ _ _ fun i hi => match i, hi with | 0, _ => rfl | 1, _ => rfl | 2, _ => rfl
    rw [← hW0]
    exact h1.below ((Below.refl _ _).alloc (Nat.le_refl _) _) (by simp)
  have hC : CellsAt W0 (W.heap.size + 1) 8 zeros8 := by
    have h1 := cellsAt_new (W.alloc (.cells #[.int .i64 0, .int .i64 0, .int .i64 0] 28)) #[.int .u64 0, .int .u64 0, .int .u64 0, .int .u64 0, .int .u64 0, .int .u64 0, .int .u64 0, .int .u64 0] 107 8 zeros8 fun i hi => match i, hi with | 0, _ => rfl | 1, _ => rfl | 2, _ => rfl | 3, _ => rfl | 4, _ => rfl | 5, _ => rfl | 6, _ => rfl | 7, _ => rfl
    rw [World.size_alloc] at h1
    rw [← hW0]
    exact h1
  have hF0 := h.rd.free_new hb0 (Nat.le_refl W.heap.size)
  have hF1 := h.rd.free_new hb0 (Nat.le_succ W.heap.size)
  have HB0 := Lib.hid (RB.of_below hb0 hRl)
  have h0 := h.below hb0
  have HG := Lib.hid (fun W => getInode8_any (loadR fed (line * 8) st).1 (loadR fed (line * 8 + 1) (loadR fed (line * 8) st).2).1 W hk ht)
  have HL1 := Lib.hid (loadR_any (line * 8) (8 * (line : Int)) W0 (by omega) (by omega) hnf hx64 h0)
  have HL2 := Lib.hid (fun W1 (h1 : RfAt R FA nf cf fed (loadR fed (line * 8) st).2 W1) => loadR_any (line * 8 + 1) (8 * (line : Int) + 1) W1 (by omega) (by omega) hnf hx64 h1)
  clear h h0 hb0 hx64 hL1
  generalize loadR fed (line * 8) st = r1 at *
  generalize loadR fed (line * 8 + 1) r1.2 = r2 at *
  obtain ⟨k, st1⟩ := r1
  obtain ⟨t, st2⟩ := r2
  simp only at *
  have hl0 : (0 : Int) ≤ 8 * (line : Int) := by omega
  have hl1 : 8 * (line : Int) ≤ 8192 := by omega
  unfold encLn at HG
  go_enter Tryz.func35, Tryz.ntmps35
  go_wp2_with fail
  refine HL1.out.mono ?_
  rintro e w1 ⟨rfl, h1, hb1⟩
  have hI1 := hI.rb hb1 (by omega) hF0
  have hC1 := hC.rb hb1 (by omega) hF1
  have hF01 := (hb1.keep W.heap.size (by omega) hF0).2
  have hF11 := (hb1.keep (W.heap.size + 1) (by omega) hF1).2
  have HB1 := Lib.hid (HB0.out.trans (hb1.mono (by omega)))
  have hs1 := hb1.size
  clear hb1 hI hC hF0 hF1 HB0 HL1
  obtain ⟨w2, hw2⟩ : ∃ w2, w1.setCell ⟨W.heap.size + 1, 0, none⟩ (.int .u64 k) = w2 := ⟨_, rfl⟩
  have h2 : RfAt R FA nf cf fed st1 w2 := hw2 ▸ h1.set hF11
  have hs2 : w1.heap.size ≤ w2.heap.size := by rw [← hw2]; simp [World.setCell]
  have hI2 : CellsAt w2 W.heap.size 3 (fun _ => .int .i64 0) := hw2 ▸ hI1.set (by omega)
  have hC2 := hC1.upd (i := 0) (v := .int .u64 k) (by omega)
  rw [hw2] at hC2
  have hF02 : FreeAt R w2 W.heap.size := hw2 ▸ hF01.set hF11.1
  have hF12 : FreeAt R w2 (W.heap.size + 1) := hw2 ▸ hF11.set hF11.1
  have HB2 : Hid (RB R W.heap.size W w2) := hw2 ▸ HB1.out.set (by omega) hF11.1
  have x0 := hC1.1 0 (by omega)
  have x0' := hC1.2 0
  have hx0 : zeros8 0 = .int .u64 0 := rfl
  rw [hx0] at x0
  clear hx0
  clear hI1 hC1 hF01 hF11 h1
  go_wp2_with fail
  refine (HL2.out _ h2).mono ?_
  rintro e w3 ⟨rfl, h3, hb3⟩
  have hI3 := hI2.rb hb3 (by omega) hF02
  have hC3 := hC2.rb hb3 (by omega) hF12
  have hF03 := (hb3.keep W.heap.size (by omega) hF02).2
  have hF13 := (hb3.keep (W.heap.size + 1) (by omega) hF12).2
  have HB3 := Lib.hid (HB2.out.trans (hb3.mono (by omega)))
  have hs3 := hb3.size
  clear hb3 hI2 hC2 hF02 hF12 HB1 HB2 HL2 h2 x0 x0'
  clear hw2
  obtain ⟨w4, hw4⟩ : ∃ w4, w3.setCell ⟨W.heap.size + 1, 1, none⟩ (.int .u64 t) = w4 := ⟨_, rfl⟩
  have h4 : RfAt R FA nf cf fed st2 w4 := hw4 ▸ h3.set hF13
  have hs4 : w3.heap.size ≤ w4.heap.size := by rw [← hw4]; simp [World.setCell]
  have hI4 : CellsAt w4 W.heap.size 3 (fun _ => .int .i64 0) := hw4 ▸ hI3.set (by omega)
  have hC4 := hC3.upd (i := 1) (v := .int .u64 t) (by omega)
  rw [hw4] at hC4
  have hF04 : FreeAt R w4 W.heap.size := hw4 ▸ hF03.set hF13.1
  have HB4 : Hid (RB R W.heap.size W w4) := hw4 ▸ HB3.out.set (by omega) hF13.1
  have x1 : w3.cell? ⟨W.heap.size + 1, 1, none⟩ = some (.int .u64 0) := hC3.1 1 (by omega)
  have x1' := hC3.2 1
  have c0 : w4.cell? ⟨W.heap.size + 1, 0, none⟩ = some (.int .u64 k) := hC4.1 0 (by omega)
  have c1 : w4.cell? ⟨W.heap.size + 1, 1, none⟩ = some (.int .u64 t) := hC4.1 1 (by omega)
  have c2 : w4.cell? ⟨W.heap.size + 1, 2, none⟩ = some (.int .u64 0) := hC4.1 2 (by omega)
  have c3 : w4.cell? ⟨W.heap.size + 1, 3, none⟩ = some (.int .u64 0) := hC4.1 3 (by omega)
  have c4 : w4.cell? ⟨W.heap.size + 1, 4, none⟩ = some (.int .u64 0) := hC4.1 4 (by omega)
  have c5 : w4.cell? ⟨W.heap.size + 1, 5, none⟩ = some (.int .u64 0) := hC4.1 5 (by omega)
  have c6 : w4.cell? ⟨W.heap.size + 1, 6, none⟩ = some (.int .u64 0) := hC4.1 6 (by omega)
  have c7 : w4.cell? ⟨W.heap.size + 1, 7, none⟩ = some (.int .u64 0) := hC4.1 7 (by omega)
  clear hI3 hC3 hF03 hF13 h3 hC4
  go_wp2_with fail
  refine (HG.out _).mono ?_
  rintro e w5 ⟨rfl, hb5⟩
  clear c0 c1 c2 c3 c4 c5 c6 c7 x1 x1' hw4
  have h5 := h4.below hb5
  have hI5 := hI4.below hb5 (by omega)
  have hF5 := freeAt_below hb5 h4.rd.lt hF04
  have HB5 := Lib.hid (HB4.out.trans ((RB.of_below hb5 h4.rd.lt).mono (by omega)))
  have hs5 := hb5.size
  clear hb5 hI4 hF04 h4
  generalize getN k t = g at *
  obtain ⟨n, b⟩ := g
  have HEV : Hid (encNd n = .agg #[.int .i64 n.1, .int .i64 n.2.1, .int .i64 n.2.2]) := rfl
  have y0 := hI5.1 0 (by omega)
  have y1 := hI5.1 1 (by omega)
  have y2 := hI5.1 2 (by omega)
  have z0 := hI5.2 0
  have z1 := hI5.2 1
  have z2 := hI5.2 2
  simp only at *
  rw [HEV.out]
  have H6 : Hid (RfAt R FA nf cf fed st2 (put3 w5 W.heap.size n.1 n.2.1 n.2.2)) := h5.put3 hF5 (by omega)
  have HB6 : Hid (RB R W.heap.size W (put3 w5 W.heap.size n.1 n.2.1 n.2.2)) := HB5.out.put3 (Nat.le_refl _) hF5.1
  clear hI5 hF5 h5
  unfold put3 at H6 HB6
  go_wp2_with fail
  rw [HE.out]
  refine bodyPost_ret (v := .tuple #[encNd n, .bool b]) (by simp [results, Tryz.results35, go_sem, y0, y1, y2, z0, z1, z2, encNd, encN]) rfl ?_
  exact ⟨rfl, H6.out, HB6.out⟩
end Go.Proofs.YtdlblbhmeidhbaaGreatDoor
