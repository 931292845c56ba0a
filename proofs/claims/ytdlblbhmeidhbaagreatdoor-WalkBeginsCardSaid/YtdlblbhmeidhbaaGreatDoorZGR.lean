/- The contracts of the functions that Run and Ats read with. Conditions: none. -/
import Derived.Test.YtdlblbhmeidhbaaGreatDoorZGQ
namespace Go.Proofs.YtdlblbhmeidhbaaGreatDoor
open Go.RowKit

/-- The boxes that Run and Ats read from: the reader, and the names. -/
def NamesAt (R Rb Nb : Nat) (nm : List (List UInt8)) (W : World) : Prop :=
  W.cell? ⟨Rb, 0, none⟩ = some (.pointer (some ⟨R, 0, none⟩)) ∧ ∃ NA cn, W.cell? ⟨Nb, 0, none⟩ = some (.slice NA nm.length cn) ∧ nm.length ≤ cn ∧ nm.length ≤ 100 ∧ (∀ x ∈ nm, rightB x = true) ∧ RowAt W NA (nm.map fun x => .string (ofBytes x)) ∧ (0 < nm.length → ∀ b off, NA = some ⟨b, off, none⟩ → b < R)
variable {R : Nat} {FA : Option Addr} {nf cf : Nat} {fed : List Nat}
set_option maxRecDepth 100000 in
set_option maxHeartbeats 4000000 in
theorem run1_any (Rb Nb : Nat) (nm : List (List UInt8)) (W : World) (hn : NamesAt R Rb Nb nm W) (hnf : nf ≤ 20000) (hx64 : ∀ x ∈ fed, x < 18446744073709551616) (h : RdAt R FA nf cf fed [] W) :
    Calls Tryz.prog 18 #[.pointer (some ⟨Rb, 0, none⟩), .pointer (some ⟨Nb, 0, none⟩)] W (ReadsTo R FA nf cf fed W encLW (walkedP fed nm)) := by
  obtain ⟨c1, NA, cn, c2, hcn, h100, hright, hrow, hNA⟩ := hn
  obtain ⟨W1, hW1⟩ : ∃ W1, W.alloc (.cells #[.bool false, .int .i64 0, .int .i64 0, .int .i64 0, .int .i64 0, .int .i64 0, .int .i64 0, .int .i64 0] 30) = W1 := ⟨_, rfl⟩
  have hb1 : Below W.heap.size W W1 := by rw [← hW1]; exact (Below.refl _ _).alloc (Nat.le_refl _) _
  have hs1 : W1.heap.size = W.heap.size + 1 := by rw [← hW1]; simp
  have hR1 := h.below hb1
  have hFO := h.free_new hb1 (Nat.le_refl _)
  have d1 := (hb1.cell (p := ⟨Rb, 0, none⟩) (World.block_lt_of_cell? W ⟨Rb, 0, none⟩ c1)).trans c1
  have d2 := (hb1.cell (p := ⟨Nb, 0, none⟩) (World.block_lt_of_cell? W ⟨Nb, 0, none⟩ c2)).trans c2
  have hwk := walked_any nm NA nm.length cn W1 rfl h100 hcn hright (hrow.below hb1) hNA hnf hx64 hR1
  have hCO : CellsAt W1 W.heap.size 8 zeroW := ⟨fun i hi => by
    rw [← hW1]
    match i, hi with
    | 0, _ => exact cell_new W _ _ 0 _ rfl
    | 1, _ => exact cell_new W _ _ 1 _ rfl
    | 2, _ => exact cell_new W _ _ 2 _ rfl
    | 3, _ => exact cell_new W _ _ 3 _ rfl
    | 4, _ => exact cell_new W _ _ 4 _ rfl
    | 5, _ => exact cell_new W _ _ 5 _ rfl
    | 6, _ => exact cell_new W _ _ 6 _ rfl
    | 7, _ => exact cell_new W _ _ 7 _ rfl, fun i => by rw [← hW1]; exact (World.frozen?_of_block (w := W.alloc (.cells #[.bool false, .int .i64 0, .int .i64 0, .int .i64 0, .int .i64 0, .int .i64 0, .int .i64 0, .int .i64 0] 30)) rfl).trans (by simp)⟩
  have HB1 := Lib.hid (RB.of_below hb1 h.lt)
  have hRl := h.lt
  generalize nm.length = nn at *
  clear c1 c2 hrow hNA hright h hb1 hR1
  cases hr : walkedP fed nm with
  | stop o l =>
    have HC := Lib.hid (reads_stop hwk hr)
    clear hwk
    go_enter Tryz.func18, Tryz.ntmps18
    go_wp2_with fail
    refine HC.out.mono ?_
    rintro e w2 ⟨rfl, h2, hb2⟩
    go_wp2_with fail
    exact ⟨rfl, (endOf_stop _ _ _).symm, h2, HB1.out.trans (hb2.mono (by omega))⟩
  | val t l =>
    have hwv := reads_val hwk hr
    unfold encWk encNd encN at hwv
    have HC := Lib.hid hwv
    clear hwk hwv
    go_enter Tryz.func18, Tryz.ntmps18
    go_wp2_with fail
    refine HC.out.mono ?_
    rintro e w2 ⟨rfl, h2, hb2⟩
    have hO2 := hCO.rb hb2 (by omega) hFO
    have fO2 := (hb2.keep W.heap.size (by omega) hFO).2
    have HB2 := Lib.hid (HB1.out.trans (hb2.mono (by omega)))
    have hs2 := hb2.size
    clear hb2 hCO hFO HC
    obtain ⟨w3, hw3⟩ : ∃ w3, w2.alloc (.cells #[.int .i64 t.2.1, .int .i64 t.2.2.1, .int .i64 t.2.2.2] 28) = w3 := ⟨_, rfl⟩
    have hb3 : Below w2.heap.size w2 w3 := by rw [← hw3]; exact (Below.refl _ _).alloc (Nat.le_refl _) _
    have n0 : w3.cell? ⟨w2.heap.size, 0, none⟩ = some (.int .i64 t.2.1) := by rw [← hw3]; exact cell_new w2 _ _ 0 _ rfl
    have n1 : w3.cell? ⟨w2.heap.size, 1, none⟩ = some (.int .i64 t.2.2.1) := by rw [← hw3]; exact cell_new w2 _ _ 1 _ rfl
    have n2 : w3.cell? ⟨w2.heap.size, 2, none⟩ = some (.int .i64 t.2.2.2) := by rw [← hw3]; exact cell_new w2 _ _ 2 _ rfl
    have hO3 := hO2.below hb3 (by omega)
    have fO3 := freeAt_below hb3 h2.lt fO2
    have h3 := h2.below hb3
    have HB3 := Lib.hid (HB2.out.trans ((RB.of_below hb3 h2.lt).mono (by omega)))
    obtain ⟨w4, hw4⟩ : ∃ w4, putTo w3 W.heap.size (lineW t) 8 = w4 := ⟨_, rfl⟩
    have hO4 : CellsAt w4 W.heap.size 8 (lineW t) := by rw [← hw4]; exact putTo_all hO3
    have h4 : RdAt R FA nf cf fed l w4 := by rw [← hw4]; exact h3.putTo fO3 (by omega) 8
    have HB4 : Hid (RB R W.heap.size W w4) := by rw [Hid, ← hw4]; exact HB3.out.putTo (Nat.le_refl _) fO3.1 8
    have z0 := hO3.1 0 (by omega)
    have z1 := hO3.1 1 (by omega)
    have z2 := hO3.1 2 (by omega)
    have z3 := hO3.1 3 (by omega)
    have z4 := hO3.1 4 (by omega)
    have z5 := hO3.1 5 (by omega)
    have z6 := hO3.1 6 (by omega)
    have z7 := hO3.1 7 (by omega)
    have y0 := hO3.2 0
    have y1 := hO3.2 1
    have y2 := hO3.2 2
    have y3 := hO3.2 3
    have y4 := hO3.2 4
    have y5 := hO3.2 5
    have y6 := hO3.2 6
    have y7 := hO3.2 7
    have HO4 := Lib.hid hO4
    have H4 := Lib.hid h4
    unfold putTo putTo putTo putTo putTo putTo putTo putTo putTo lineW cellsW at hw4
    clear hO3 hO2 fO3 fO2 h3 h2 hO4 h4 hb3
    go_wp2_with fail
    have g0 := HO4.out.1 0 (by omega)
    have g1 := HO4.out.1 1 (by omega)
    have g2 := HO4.out.1 2 (by omega)
    have g3 := HO4.out.1 3 (by omega)
    have g4 := HO4.out.1 4 (by omega)
    have g5 := HO4.out.1 5 (by omega)
    have g6 := HO4.out.1 6 (by omega)
    have g7 := HO4.out.1 7 (by omega)
    refine bodyPost_ret (v := encLW t) (by simp [results, Tryz.results18, go_sem, g0, g1, g2, g3, g4, g5, g6, g7, encLW, agg8]) rfl ?_
    exact ⟨rfl, H4.out, HB4.out⟩
set_option maxRecDepth 100000 in
set_option maxHeartbeats 4000000 in
theorem ats1_any (Rb Nb : Nat) (nm : List (List UInt8)) (W : World) (hn : NamesAt R Rb Nb nm W) (hnf : nf ≤ 20000) (hx64 : ∀ x ∈ fed, x < 18446744073709551616) (h : RdAt R FA nf cf fed [] W) :
    Calls Tryz.prog 37 #[.pointer (some ⟨Rb, 0, none⟩), .pointer (some ⟨Nb, 0, none⟩)] W (ReadsTo R FA nf cf fed W encLn1 (walkedP fed nm)) := by
  obtain ⟨c1, NA, cn, c2, hcn, h100, hright, hrow, hNA⟩ := hn
  have hwk := walked_any nm NA nm.length cn W rfl h100 hcn hright hrow hNA hnf hx64 h
  generalize nm.length = nn at *
  clear hrow hNA hright h
  cases hr : walkedP fed nm with
  | stop o l =>
    have HC := Lib.hid (reads_stop hwk hr)
    clear hwk
    go_enter Tryz.func37, Tryz.ntmps37
    go_wp2_with fail
    refine HC.out.mono ?_
    rintro e w2 ⟨rfl, h2, hb2⟩
    go_wp2_with fail
    exact ⟨rfl, (endOf_stop _ _ _).symm, h2, hb2⟩
  | val t l =>
    have hwv := reads_val hwk hr
    unfold encWk encNd encN at hwv
    have HC := Lib.hid hwv
    clear hwk hwv
    go_enter Tryz.func37, Tryz.ntmps37
    go_wp2_with fail
    refine HC.out.mono ?_
    rintro e w2 ⟨rfl, h2, hb2⟩
    go_wp2_with fail
    have hb3 : Below w2.heap.size w2 (w2.alloc (.cells #[.int .i64 t.2.1, .int .i64 t.2.2.1, .int .i64 t.2.2.2] 28)) := (Below.refl _ _).alloc (Nat.le_refl _) _
    refine bodyPost_ret (v := encLn1 t) (by simp [results, Tryz.results37, go_sem, encLn1]) rfl ?_
    exact ⟨rfl, h2.below hb3, hb2.trans' (RB.of_below hb3 h2.lt)⟩
end Go.Proofs.YtdlblbhmeidhbaaGreatDoor
