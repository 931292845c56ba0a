/- The contract of the document's Run. The contract of Enough. The law WalkRuns as a call. The law WalkRuns as a call: one case. Conditions: none. -/
import Derived.Test.YtdlblbhmeidhbaaGreatDoorZI8
import Derived.BigRegion
namespace Go.Proofs.YtdlblbhmeidhbaaGreatDoor
open Go.RowKit

/-- Eight cells, one by one, none frozen. -/
theorem CellsAt.all8 {W : World} {X : Nat} {f : Nat → Value} (h : CellsAt W X 8 f) :
    (W.cell? ⟨X, 0, none⟩ = some (f 0) ∧ W.cell? ⟨X, 1, none⟩ = some (f 1) ∧ W.cell? ⟨X, 2, none⟩ = some (f 2) ∧ W.cell? ⟨X, 3, none⟩ = some (f 3) ∧ W.cell? ⟨X, 4, none⟩ = some (f 4) ∧ W.cell? ⟨X, 5, none⟩ = some (f 5) ∧ W.cell? ⟨X, 6, none⟩ = some (f 6) ∧ W.cell? ⟨X, 7, none⟩ = some (f 7)) ∧
    (W.frozen? ⟨X, 0, none⟩ = false ∧ W.frozen? ⟨X, 1, none⟩ = false ∧ W.frozen? ⟨X, 2, none⟩ = false ∧ W.frozen? ⟨X, 3, none⟩ = false ∧ W.frozen? ⟨X, 4, none⟩ = false ∧ W.frozen? ⟨X, 5, none⟩ = false ∧ W.frozen? ⟨X, 6, none⟩ = false ∧ W.frozen? ⟨X, 7, none⟩ = false) :=
  ⟨⟨h.1 0 (by omega), h.1 1 (by omega), h.1 2 (by omega), h.1 3 (by omega), h.1 4 (by omega), h.1 5 (by omega), h.1 6 (by omega), h.1 7 (by omega)⟩, h.2 0, h.2 1, h.2 2, h.2 3, h.2 4, h.2 5, h.2 6, h.2 7⟩
variable {FA : Option Addr} {nf cf : Nat} {fed : List Nat}
/-- What the walk's answer is, told in the document's way. -/
theorem runF_sim {r : Res (Nat × Nat × Nat × Nat)} {q : WalkV × RSt} (h : SimW r q) : (q.2.2 = false ∧ runF r = cellsW (.bool false) (.int .i64 0) (.int .i64 q.2.1.length) (.int .i64 q.1.2.2) (.int .i64 q.1.1) (.int .i64 q.1.2.1.1) (.int .i64 q.1.2.1.2.1) (.int .i64 q.1.2.1.2.2)) ∨ (q.2.2 = true ∧ ∃ p, r = .stop (.need p) q.2.1) := by
  unfold SimW at h
  cases r with
  | val t l => simp only at h; subst h; exact .inl ⟨rfl, rfl⟩
  | stop o l =>
    cases o with
    | err c => simp only at h; subst h; exact .inl ⟨rfl, rfl⟩
    | need p => simp only at h; exact .inr ⟨by rw [h], p, by rw [h]⟩
set_option maxRecDepth 100000 in
set_option maxHeartbeats 4000000 in
theorem refRun_no (s : ByteArray) (W : World) (hs : s.size < 4294967281) (hbg : begunN (bytesOf s) nf ≠ 0) :
    Calls Tryz.prog 8 #[.string s, .slice FA nf cf] W fun e W' => e = .returned (.tuple #[agg8 zeroW, .int .i64 (begunN (bytesOf s) nf)]) ∧ Below W.heap.size W W' := by
  obtain ⟨W1, hW1⟩ : ∃ W1, W.alloc (.cells #[.bool false, .int .i64 0, .int .i64 0, .int .i64 0, .int .i64 0, .int .i64 0, .int .i64 0, .int .i64 0] 30) = W1 := ⟨_, rfl⟩
  have hb1 : Below W.heap.size W W1 := by rw [← hW1]; exact (Below.refl _ _).alloc (Nat.le_refl _) _
  have hs1 : W1.heap.size = W.heap.size + 1 := by rw [← hW1]; simp
  have hCO : CellsAt W1 W.heap.size 8 zeroW := by rw [← hW1]; exact cellsAt_new _ _ _ _ _ fun i hi => match i, hi with | 0, _ => rfl | 1, _ => rfl | 2, _ => rfl | 3, _ => rfl | 4, _ => rfl | 5, _ => rfl | 6, _ => rfl | 7, _ => rfl
  have HB1 := Lib.hid hb1
  have HSP := Lib.hid (refsplit_any s W1 hs)
  unfold SplitPPost at HSP
  have HC : Hid ((((readP (bytesOf s)).1 != 0) = true ∧ begunN (bytesOf s) nf = (readP (bytesOf s)).1) ∨ (((readP (bytesOf s)).1 != 0) = false ∧ (readP (bytesOf s)).1 = 0 ∧ decide ((20000 : Int) < (nf : Int)) = true ∧ begunN (bytesOf s) nf = 3)) := by
    rcases begunN_split (s := bytesOf s) (n := nf) with ⟨h0, h1⟩ | ⟨h0, h1, h2⟩ | ⟨h0, h1, h2⟩
    · exact .inl ⟨by rw [bne_iff_ne]; exact h0, h1⟩
    · exact .inr ⟨by rw [h0]; rfl, h0, by simp; omega, h2⟩
    · exact absurd h2 hbg
  clear hb1 hbg
  generalize begunN (bytesOf s) nf = z at *
  generalize readP (bytesOf s) = rp at *
  obtain ⟨z', nm⟩ := rp
  simp only at *
  rcases HC.out with ⟨h1, h2⟩ | ⟨h1, h2, h3, h4⟩
  · subst h2
    clear HC
    go_enter Tryz.func8, Tryz.ntmps8
    go_wp2_with fail
    refine HSP.out.mono ?_
    rintro e w2 ⟨v, rfl, _, hb2, _⟩
    have hO2 := hCO.below hb2 (by omega)
    have hB2 : Below W.heap.size W w2 := HB1.out.trans (hb2.mono (by omega))
    obtain ⟨⟨z0, z1, z2, z3, z4, z5, z6, z7⟩, y0, y1, y2, y3, y4, y5, y6, y7⟩ := hO2.all8
    obtain ⟨w4, hw4⟩ : ∃ w4, putTo w2 W.heap.size zeroW 8 = w4 := ⟨_, rfl⟩
    have HO4 : Hid (CellsAt w4 W.heap.size 8 zeroW) := by rw [Hid, ← hw4]; exact putTo_all hO2
    have HB4 : Hid (Below W.heap.size W w4) := by rw [Hid, ← hw4]; exact below_putTo hB2 (Nat.le_refl _) 8
    unfold putTo putTo putTo putTo putTo putTo putTo putTo putTo zeroW cellsW at hw4
    clear hO2 hb2
    go_wp2_with fail
    obtain ⟨⟨g0, g1, g2, g3, g4, g5, g6, g7⟩, _⟩ := HO4.out.all8
    refine bodyPost_ret (v := .tuple #[agg8 zeroW, .int .i64 z]) (by simp [results, Tryz.results8, go_sem, g0, g1, g2, g3, g4, g5, g6, g7, agg8]) rfl ⟨rfl, HB4.out⟩
  · subst h2
    subst h4
    clear HC
    go_enter Tryz.func8, Tryz.ntmps8
    go_wp2_with fail
    refine HSP.out.mono ?_
    rintro e w2 ⟨v, rfl, _, hb2, _⟩
    have hO2 := hCO.below hb2 (by omega)
    have hB2 : Below W.heap.size W w2 := HB1.out.trans (hb2.mono (by omega))
    obtain ⟨⟨z0, z1, z2, z3, z4, z5, z6, z7⟩, y0, y1, y2, y3, y4, y5, y6, y7⟩ := hO2.all8
    obtain ⟨w4, hw4⟩ : ∃ w4, putTo w2 W.heap.size zeroW 8 = w4 := ⟨_, rfl⟩
    have HO4 : Hid (CellsAt w4 W.heap.size 8 zeroW) := by rw [Hid, ← hw4]; exact putTo_all hO2
    have HB4 : Hid (Below W.heap.size W w4) := by rw [Hid, ← hw4]; exact below_putTo hB2 (Nat.le_refl _) 8
    unfold putTo putTo putTo putTo putTo putTo putTo putTo putTo zeroW cellsW at hw4
    clear hO2 hb2
    go_wp2_with fail
    obtain ⟨⟨g0, g1, g2, g3, g4, g5, g6, g7⟩, _⟩ := HO4.out.all8
    refine bodyPost_ret (v := .tuple #[agg8 zeroW, .int .i64 3]) (by simp [results, Tryz.results8, go_sem, g0, g1, g2, g3, g4, g5, g6, g7, agg8]) rfl ⟨rfl, HB4.out⟩
set_option maxRecDepth 100000 in
set_option maxHeartbeats 8000000 in
theorem refRun_yes (s : ByteArray) (W : World) (hs : s.size < 4294967281) (hfl : fed.length = nf) (hx64 : ∀ x ∈ fed, x < 18446744073709551616) (hrow : RowAt W FA (fed.map encW)) (hbg : begunN (bytesOf s) nf = 0) :
    Calls Tryz.prog 8 #[.string s, .slice FA nf cf] W fun e W' => e = .returned (.tuple #[agg8 (runF (walkedP fed (readP (bytesOf s)).2)), .int .i64 0]) ∧ Below W.heap.size W W' := by
  obtain ⟨W1, hW1⟩ : ∃ W1, W.alloc (.cells #[.bool false, .int .i64 0, .int .i64 0, .int .i64 0, .int .i64 0, .int .i64 0, .int .i64 0, .int .i64 0] 30) = W1 := ⟨_, rfl⟩
  have hb1 : Below W.heap.size W W1 := by rw [← hW1]; exact (Below.refl _ _).alloc (Nat.le_refl _) _
  have hs1 : W1.heap.size = W.heap.size + 1 := by rw [← hW1]; simp
  have hCO : CellsAt W1 W.heap.size 8 zeroW := by rw [← hW1]; exact cellsAt_new _ _ _ _ _ fun i hi => match i, hi with | 0, _ => rfl | 1, _ => rfl | 2, _ => rfl | 3, _ => rfl | 4, _ => rfl | 5, _ => rfl | 6, _ => rfl | 7, _ => rfl
  have HB1 := Lib.hid hb1
  have HSP := Lib.hid (refsplit_any s W1 hs)
  unfold SplitPPost at HSP
  have hcs := readP_cases (bytesOf s)
  obtain ⟨h0, h1⟩ : (readP (bytesOf s)).1 = 0 ∧ nf ≤ 20000 := by
    rcases begunN_split (s := bytesOf s) (n := nf) with ⟨h0, h1⟩ | ⟨h0, h1, h2⟩ | ⟨h0, h1, h2⟩
    · exact absurd (h1.symm.trans hbg) h0
    · rw [h2] at hbg; cases hbg
    · exact ⟨h0, h1⟩
  have hq : (readP (bytesOf s)).2.length ≤ 100 ∧ ∀ x ∈ (readP (bytesOf s)).2, rightB x = true := by
    rcases hcs with ⟨_, h2, h3⟩ | ⟨h1, _⟩
    · exact ⟨by have := h2.1; omega, List.all_eq_true.1 h3⟩
    · omega
  generalize readP (bytesOf s) = rp at *
  obtain ⟨z, nm⟩ := rp
  simp only at *
  subst h0
  obtain ⟨h100, hright⟩ := hq
  have hsm : decide ((20000 : Int) < (nf : Int)) = false := by simp; omega
  have HSIM := Lib.hid (runF_sim (walk_sim (fed := fed) nm))
  have HMOST := Lib.hid (walked_steady nm fed [])
  have HR := Lib.hid hright
  have HX := Lib.hid hx64
  have HROW := Lib.hid (hrow.below hb1)
  have HFL := Lib.hid hfl
  clear hcs hbg hrow hx64 hright hfl hb1
  go_enter Tryz.func8, Tryz.ntmps8
  go_wp2_with fail
  refine HSP.out.mono ?_
  rintro e w2 ⟨v, rfl, ⟨NA, cn, rfl, hcn, hcm, hrn⟩, hb2, _⟩
  have hs2 := hb2.size
  have HB2 := Lib.hid (HB1.out.trans (hb2.mono (by omega)))
  have hO2 := hCO.below hb2 (by omega)
  have HRF := Lib.hid (rfAt_new (cf := cf) w2 64 HFL.out (HROW.out.below hb2))
  have HWK := Lib.hid (walkR_any nm NA nm.length cn (w2.alloc (.cells #[.slice FA nf cf, .slice none 0 0, .bool false] 64)) rfl h100 hcn HR.out (hrn.alloc _) (fun hp b off e => by
    obtain ⟨b', off', e', hb', _⟩ := hrn (by rw [List.length_map]; exact hp)
    rw [e] at e'
    cases e'
    exact hb') (okSt0 fed) h1 HX.out HRF.out)
  have hO3 : CellsAt (w2.alloc (.cells #[.slice FA nf cf, .slice none 0 0, .bool false] 64)) W.heap.size 8 zeroW := hO2.below ((Below.refl _ _).alloc (Nat.le_refl _) _) (by omega)
  clear hrn hb2 hO2 hCO
  go_wp2_with fail
  refine HWK.out.mono ?_
  rintro e w3 ⟨rfl, h3, hb3⟩
  have hO4 := hO3.rb hb3 (by simp; omega) (HRF.out.rd.free_lt (by omega))
  have hB3 : Below W.heap.size W w3 := by
    have ha : Below W.heap.size W (w2.alloc (.cells #[.slice FA nf cf, .slice none 0 0, .bool false] 64)) := HB2.out.alloc HB2.out.size _
    exact ha.trans (hb3.to_below HRF.out.rd (by simp; omega) (by omega))
  have hs3 : w2.heap.size + 1 ≤ w3.heap.size := by have := hb3.size; simp at this; omega
  clear hb3 hO3 HWK
  generalize hq : walkR fed nm ([], false) = q at *
  obtain ⟨⟨ln, n, no⟩, l, mo⟩ := q
  have HQ := Lib.hid hq
  clear hq
  unfold encWV encNd encN
  simp only at *
  obtain ⟨w4, hw4⟩ : ∃ w4, w3.alloc (.cells #[.int .i64 n.1, .int .i64 n.2.1, .int .i64 n.2.2] 28) = w4 := ⟨_, rfl⟩
  have hb4 : Below w3.heap.size w3 w4 := by rw [← hw4]; exact (Below.refl _ _).alloc (Nat.le_refl _) _
  have u0 : w4.cell? ⟨w3.heap.size, 0, none⟩ = some (.int .i64 n.1) := by rw [← hw4]; exact cell_new w3 _ _ 0 _ rfl
  have u1 : w4.cell? ⟨w3.heap.size, 1, none⟩ = some (.int .i64 n.2.1) := by rw [← hw4]; exact cell_new w3 _ _ 1 _ rfl
  have u2 : w4.cell? ⟨w3.heap.size, 2, none⟩ = some (.int .i64 n.2.2) := by rw [← hw4]; exact cell_new w3 _ _ 2 _ rfl
  have h4 := h3.below hb4
  have hO5 := hO4.below hb4 (by omega)
  have hB4 := hB3.trans (hb4.mono (by omega))
  have hmo : w4.cell? ⟨w2.heap.size, 2, none⟩ = some (.bool mo) := h4.mo
  obtain ⟨v, hv, hown⟩ := h4.rd.atsv
  obtain ⟨A, c, rfl, hc1, hc2⟩ := owns_slice hown
  have HOW := Lib.hid (row_of_own hown)
  clear h3 hb4 hO4 hB3 hown h4
  obtain ⟨⟨z0, z1, z2, z3, z4, z5, z6, z7⟩, y0, y1, y2, y3, y4, y5, y6, y7⟩ := hO5.all8
  unfold zeroW cellsW at z0 z1 z2 z3 z4 z5 z6 z7
  simp only at z0 z1 z2 z3 z4 z5 z6 z7 hv hc1
  rcases HSIM.out with ⟨hm, hF⟩ | ⟨hm, p, hF⟩
  · subst hm
    have HF := Lib.hid hF
    clear hF
    obtain ⟨w5, hw5⟩ : ∃ w5, putTo w4 W.heap.size (runF (walkedP fed nm)) 8 = w5 := ⟨_, rfl⟩
    have HO6 : Hid (CellsAt w5 W.heap.size 8 (runF (walkedP fed nm))) := by rw [Hid, ← hw5]; exact putTo_all hO5
    have HB6 : Hid (Below W.heap.size W w5) := by rw [Hid, ← hw5]; exact below_putTo hB4 (Nat.le_refl _) 8
    rw [HF.out] at hw5 HO6
    unfold putTo putTo putTo putTo putTo putTo putTo putTo putTo cellsW at hw5
    simp only at hw5
    clear hO5
    obtain ⟨ll, hll⟩ : ∃ ll, l.length = ll := ⟨_, rfl⟩
    have HLL := Lib.hid hll
    rw [hll] at hv hc1 hw5 HO6
    clear hll
    go_wp2_with fail
    clear hw4
    go_region
    go_wp2_with fail
    obtain ⟨⟨g0, g1, g2, g3, g4, g5, g6, g7⟩, _⟩ := HO6.out.all8
    unfold cellsW at g0 g1 g2 g3 g4 g5 g6 g7
    simp only at g0 g1 g2 g3 g4 g5 g6 g7
    rw [HF.out, HLL.out]
    refine bodyPost_ret (v := .tuple #[agg8 (cellsW (.bool false) (.int .i64 0) (.int .i64 ll) (.int .i64 no) (.int .i64 ln) (.int .i64 n.1) (.int .i64 n.2.1) (.int .i64 n.2.2)), .int .i64 0]) (by simp [results, Tryz.results8, go_sem, g0, g1, g2, g3, g4, g5, g6, g7, agg8, cellsW]) rfl ⟨rfl, HB6.out.drew⟩
  · subst hm
    have hst := HMOST.out
    rw [hF] at hst
    obtain ⟨hl1, hl2, _⟩ := hst
    have HF : Hid (runF (walkedP fed nm) = cellsW (.bool true) (.int .i64 p) (.int .i64 0) (.int .i64 0) (.int .i64 0) (.int .i64 0) (.int .i64 0) (.int .i64 0)) := by rw [Hid, hF]; rfl
    clear hF
    rw [HFL.out] at hl1 hl2
    obtain ⟨b, off, rfl, hbw, hcx⟩ := HOW.out.get (k := nf) (u := encI p) (by rw [List.getElem?_map, hl2]; rfl)
    unfold encI at hcx
    obtain ⟨w5, hw5⟩ : ∃ w5, putTo w4 W.heap.size (runF (walkedP fed nm)) 8 = w5 := ⟨_, rfl⟩
    have HO6 : Hid (CellsAt w5 W.heap.size 8 (runF (walkedP fed nm))) := by rw [Hid, ← hw5]; exact putTo_all hO5
    have HB6 : Hid (Below W.heap.size W w5) := by rw [Hid, ← hw5]; exact below_putTo hB4 (Nat.le_refl _) 8
    rw [HF.out] at hw5 HO6
    unfold putTo putTo putTo putTo putTo putTo putTo putTo putTo cellsW at hw5
    simp only at hw5
    rw [hl1] at hv hc1
    clear hO5 hl1 hl2
    have hsub : IntKind.i64.wrap (nf : Int) = (nf : Int) := IntWalk.i64_in _ (by omega)
    have hn0 : (0 : Int) ≤ (nf : Int) := by omega
    have hn1 : (nf : Int) < (nf : Int) + 1 := by omega
    go_wp2_with fail
    clear hw4
    go_region
    go_wp2_with fail
    obtain ⟨⟨g0, g1, g2, g3, g4, g5, g6, g7⟩, _⟩ := HO6.out.all8
    unfold cellsW at g0 g1 g2 g3 g4 g5 g6 g7
    simp only at g0 g1 g2 g3 g4 g5 g6 g7
    rw [HF.out]
    refine bodyPost_ret (v := .tuple #[agg8 (cellsW (.bool true) (.int .i64 p) (.int .i64 0) (.int .i64 0) (.int .i64 0) (.int .i64 0) (.int .i64 0) (.int .i64 0)), .int .i64 0]) (by simp [results, Tryz.results8, go_sem, g0, g1, g2, g3, g4, g5, g6, g7, agg8, cellsW]) rfl ⟨rfl, HB6.out.drew⟩
theorem refRun_any (s : ByteArray) (W : World) (hs : s.size < 4294967281) (hfl : fed.length = nf) (hx64 : ∀ x ∈ fed, x < 18446744073709551616) (hrow : RowAt W FA (fed.map encW)) :
    Calls Tryz.prog 8 #[.string s, .slice FA nf cf] W fun e W' => e = .returned (.tuple #[agg8 (runP (bytesOf s) fed).1, .int .i64 (runP (bytesOf s) fed).2]) ∧ Below W.heap.size W W' := by
  unfold runP
  rw [hfl]
  by_cases h : begunN (bytesOf s) nf = 0
  · rw [if_pos h]; exact refRun_yes s W hs hfl hx64 hrow h
  · rw [if_neg h]; exact refRun_no s W hs h
end Go.Proofs.YtdlblbhmeidhbaaGreatDoor

namespace Go.Proofs.YtdlblbhmeidhbaaGreatDoor
open Go.RowKit

variable {FA : Option Addr} {nf cf : Nat} {fed : List Nat}
theorem runP_cells (s : List UInt8) (fed : List Nat) : ∃ b a1 a2 a3 a4 a5 a6 a7 z, runP s fed = (cellsB b a1 a2 a3 a4 a5 a6 a7, z) := by
  unfold runP
  split
  · obtain ⟨b, a1, a2, a3, a4, a5, a6, a7, h⟩ := runF_cells (walkedP fed (readP s).2)
    exact ⟨b, a1, a2, a3, a4, a5, a6, a7, 0, by rw [h]⟩
  · exact ⟨_, _, _, _, _, _, _, _, _, rfl⟩
set_option maxRecDepth 100000 in
set_option maxHeartbeats 2000000 in
theorem enough_any (s : ByteArray) (b : Bool) (a1 a2 a3 a4 a5 a6 a7 z : Int) (W : World) (hs : s.size < 4294967281) (hfl : fed.length = nf) (hnf : nf ≤ maxLen) (hx64 : ∀ x ∈ fed, x < 18446744073709551616) (hrow : RowAt W FA (fed.map encW))
    (hr : runP (bytesOf s) fed = (cellsB b a1 a2 a3 a4 a5 a6 a7, z)) :
    Calls Tryz.prog 10 #[.string s, .slice FA nf cf] W fun e W' => e = .returned (.bool (z == 0 && !b)) ∧ Below W.heap.size W W' := by
  have hrn := run_any (cf := cf) s W hs hfl hnf hx64 hrow
  rw [hr] at hrn
  unfold agg8 cellsB cellsW at hrn
  have HRN := Lib.hid hrn
  have HZ : Hid (((z == 0) = true ∧ b = true) ∨ ((z == 0) = true ∧ b = false) ∨ (z == 0) = false) := by
    cases z == 0 <;> cases b <;> simp [Hid]
  clear hrn hrow hx64 hfl hr
  rcases HZ.out with ⟨h1, rfl⟩ | ⟨h1, rfl⟩ | h1
  all_goals
    go_enter Tryz.func10, Tryz.ntmps10
    go_wp2_with fail
    refine HRN.out.mono ?_
    rintro e w1 ⟨rfl, hb1⟩
    have HB := fun b : Bool => Lib.hid (hb1.alloc hb1.size (.cells #[.bool b, .int .i64 a1, .int .i64 a2, .int .i64 a3, .int .i64 a4, .int .i64 a5, .int .i64 a6, .int .i64 a7] 30))
    have HB2 := Lib.hid HB
    clear HB hb1
    go_wp2_with fail
    go_ret
    rw [h1]
    exact ⟨rfl, (HB2.out _).out⟩
end Go.Proofs.YtdlblbhmeidhbaaGreatDoor

namespace Go.Proofs.YtdlblbhmeidhbaaGreatDoor
open Go.RowKit

set_option maxRecDepth 400000 in
set_option maxHeartbeats 2000000 in
theorem lruns_out (s : ByteArray) (A : Option Addr) (n cA : Nat) (k : Int) (W : World) (h : 300 < s.size ∨ 200 < n) :
    Calls Tryz.prog 4 #[.string s, .slice A n cA, .int .i64 k] W fun e W' => e = .returned (.bool true) ∧ Below W.heap.size W W' := by
  have HK := Lib.hid works_any
  have H : Hid (decide ((300 : Int) < (s.size : Int)) = true ∨ (decide ((300 : Int) < (s.size : Int)) = false ∧ decide ((200 : Int) < (n : Int)) = true)) := by
    rw [Hid]
    by_cases h1 : 300 < s.size
    · exact .inl (by simp; omega)
    · exact .inr ⟨by simp; omega, by simp; omega⟩
  clear h
  rcases H.out with h | ⟨h, h'⟩
  all_goals
    go_enter Tryz.func4, Tryz.ntmps4
    go_wp2_with fail
    refine (HK.out _).mono ?_
    rintro e w1 ⟨rfl, hb1⟩
    go_wp2_with fail
    go_ret
    exact ⟨rfl, hb1⟩
end Go.Proofs.YtdlblbhmeidhbaaGreatDoor

namespace Go.Proofs.YtdlblbhmeidhbaaGreatDoor
open Go.RowKit

set_option maxRecDepth 400000 in
set_option maxHeartbeats 8000000 in
theorem lruns_a (s : ByteArray) (FA : Option Addr) (fed l : List Nat) (n cA ln q r : Nat) (k : Int) (b : Bool) (a1 a2 a3 a4 a5 a6 a7 z : Int) (W : World) (hs : s.size ≤ 300) (hn : n ≤ 200) (hcase : (z == 0) = true ∧ b = true)
    (hrow : RowAt W FA (fed.map encW)) (hl : l.length = ln) (hln : ln ≤ 201) (hmax : max 1 k = (q : Int)) (hr : min ln q = r)
    (hA : ∀ W, RowAt W FA (fed.map encW) → Calls Tryz.prog 7 #[.string s, .slice FA n cA] W fun e W' => e = .returned (.tuple #[agg8 (cellsB b a1 a2 a3 a4 a5 a6 a7), .int .i64 z]) ∧ Below W.heap.size W W')
    (hB : ∀ W, RowAt W FA (fed.map encW) → Calls Tryz.prog 8 #[.string s, .slice FA n cA] W fun e W' => e = .returned (.tuple #[agg8 (cellsB b a1 a2 a3 a4 a5 a6 a7), .int .i64 z]) ∧ Below W.heap.size W W')
    (hC : ∀ W, RowAt W FA (fed.map encW) → Calls Tryz.prog 11 #[.string s, .slice FA n cA] W fun e W' => ∃ A c, e = .returned (.slice A ln c) ∧ RowAt W' A (l.map encI) ∧ ln ≤ c ∧ c ≤ maxLen ∧ (A = none ∨ ∃ b off, A = some ⟨b, off, none⟩) ∧ Below W.heap.size W W')
    (hE : ∀ W, RowAt W FA (fed.map encW) → Calls Tryz.prog 10 #[.string s, .slice FA n cA] W fun e W' => e = .returned (.bool (z == 0 && !b)) ∧ Below W.heap.size W W')
    (hX : ∀ W, RowAt W FA (fed.map encW) → Calls Tryz.prog 13 #[.string s, .slice FA n cA, .int .i64 300] W fun e W' => ∃ A c, e = .returned (.slice A ln c) ∧ RowAt W' A ((l.take ln).map encI) ∧ ln ≤ c ∧ Below W.heap.size W W')
    (hY : ∀ W, RowAt W FA (fed.map encW) → Calls Tryz.prog 13 #[.string s, .slice FA n cA, .int .i64 q] W fun e W' => ∃ A c, e = .returned (.slice A r c) ∧ RowAt W' A ((l.take r).map encI) ∧ r ≤ c ∧ Below W.heap.size W W') :
    Calls Tryz.prog 4 #[.string s, .slice FA n cA, .int .i64 k] W fun e W' => e = .returned (.bool true) ∧ Below W.heap.size W W' := by
  have HK := Lib.hid works_any
  have HCASE := Lib.hid hcase
  clear hcase
  have h300 : decide ((300 : Int) < (s.size : Int)) = false := by simp; omega
  have h200 : decide ((200 : Int) < (n : Int)) = false := by simp; omega
  have hrl : r ≤ ln := by omega
  have hmin : min (ln : Int) (q : Int) = (r : Int) := by omega
  unfold agg8 cellsB cellsW at hA hB
  have HA := Lib.hid hA
  have HB := Lib.hid hB
  have HC := Lib.hid hC
  have HE := Lib.hid hE
  have HX := Lib.hid hX
  have HY := Lib.hid hY
  have HROW := Lib.hid hrow
  have HL := Lib.hid hl
  have HMX := Lib.hid hmax
  have HMN := Lib.hid hmin
  have HI : Hid (∀ (j : Nat) (A1 : Option Addr) (c1 : Nat) (A2 : Option Addr) (c2 : Nat) (W : World), j ≤ ln → j ≤ c1 → j ≤ c2 → RowAt W A1 ((l.take j).map encI) → RowAt W A2 ((l.take j).map encI) →
      Calls Tryz.prog 12 #[.slice A1 j c1, .slice A2 j c2] W fun e W' => e = .returned (.bool true) ∧ Below W.heap.size W W') := fun j A1 c1 A2 c2 W hj h1 h2 h3 h4 => by
    have h := ints_any (l.take j) (l.take j) A1 A2 j j c1 c2 W (by rw [List.length_take, HL.out]; omega) (by rw [List.length_take, HL.out]; omega) (by omega) (by omega) h1 h2 h3 h4
    rw [show decide (l.take j = l.take j) = true from decide_eq_true rfl] at h
    exact h
  clear hA hB hC hE hX hY hrow hl hmax hmin hr
  go_enter Tryz.func4, Tryz.ntmps4
  go_wp2_with fail
  refine (HA.out _ HROW.out).mono ?_
  rintro e w1 ⟨rfl, hb1⟩
  have HB1 := Lib.hid hb1
  have hs1 := hb1.size
  clear hb1
  have HCA := Lib.hid (cellsB_new w1 b a1 a2 a3 a4 a5 a6 a7 30)
  have HB2 := Lib.hid (HB1.out.alloc hs1 (.cells #[.bool b, .int .i64 a1, .int .i64 a2, .int .i64 a3, .int .i64 a4, .int .i64 a5, .int .i64 a6, .int .i64 a7] 30))
  have HRA2 := Lib.hid (HROW.out.below HB2.out)
  go_wp2_with fail
  refine (HB.out _ HRA2.out).mono ?_
  rintro e w5 ⟨rfl, hb5⟩
  have hs5 : w1.heap.size + 1 ≤ w5.heap.size := by have := hb5.size; simp at this; omega
  have HB5 := Lib.hid (HB2.out.trans (hb5.mono (by simp; omega)))
  have HCA5 := Lib.hid (HCA.out.below hb5 (by simp))
  clear hb5 HCA HB2 HRA2
  have HCB := Lib.hid (cellsB_new w5 b a1 a2 a3 a4 a5 a6 a7 30)
  have hb6 := (Below.refl w5.heap.size w5).alloc (Nat.le_refl _) (.cells #[.bool b, .int .i64 a1, .int .i64 a2, .int .i64 a3, .int .i64 a4, .int .i64 a5, .int .i64 a6, .int .i64 a7] 30)
  have HB6 := Lib.hid (HB5.out.trans (hb6.mono (by omega)))
  have HCA6 := Lib.hid (HCA5.out.below hb6 (by omega))
  have HRA6 := Lib.hid (HROW.out.below HB6.out)
  clear hb6
  go_wp2_with fail
  refine (HC.out _ HRA6.out).mono ?_
  rintro e w6 ⟨A, c, rfl, hrA, hlc, hcm, hAA, hb6⟩
  have hs6 : w5.heap.size + 1 ≤ w6.heap.size := by have := hb6.size; simp at this; omega
  have HCB7 := Lib.hid (HCB.out.below hb6 (by simp))
  have HCA7 := Lib.hid (HCA6.out.below hb6 (by simp; omega))
  have HB7 := Lib.hid (HB6.out.trans (hb6.mono (by simp; omega)))
  clear hb6 HCB HCA6 HB6 HRA6
  have HRX : Hid (∀ W1, Below w6.heap.size w6 W1 → RowAt W1 FA (fed.map encW)) := fun W1 h => (HROW.out.below HB7.out).below (h.mono (Nat.le_refl _))
  have HRL : Hid (∀ j W1, Below w6.heap.size w6 W1 → RowAt W1 A ((l.take j).map encI)) := fun j W1 h => by rw [List.map_take]; exact (hrA.below h).take j
  have HS : Hid (∀ W1, Below w6.heap.size w6 W1 → Below w6.heap.size w6 W1 ∧ (W1.cell? ⟨w1.heap.size, 0, none⟩ = some (.bool b) ∧ W1.cell? ⟨w1.heap.size, 1, none⟩ = some (.int .i64 a1) ∧ W1.cell? ⟨w1.heap.size, 2, none⟩ = some (.int .i64 a2) ∧ W1.cell? ⟨w1.heap.size, 3, none⟩ = some (.int .i64 a3) ∧ W1.cell? ⟨w1.heap.size, 4, none⟩ = some (.int .i64 a4) ∧ W1.cell? ⟨w1.heap.size, 5, none⟩ = some (.int .i64 a5) ∧ W1.cell? ⟨w1.heap.size, 6, none⟩ = some (.int .i64 a6) ∧ W1.cell? ⟨w1.heap.size, 7, none⟩ = some (.int .i64 a7)) ∧
      (W1.cell? ⟨w5.heap.size, 0, none⟩ = some (.bool b) ∧ W1.cell? ⟨w5.heap.size, 1, none⟩ = some (.int .i64 a1) ∧ W1.cell? ⟨w5.heap.size, 2, none⟩ = some (.int .i64 a2) ∧ W1.cell? ⟨w5.heap.size, 3, none⟩ = some (.int .i64 a3) ∧ W1.cell? ⟨w5.heap.size, 4, none⟩ = some (.int .i64 a4) ∧ W1.cell? ⟨w5.heap.size, 5, none⟩ = some (.int .i64 a5) ∧ W1.cell? ⟨w5.heap.size, 6, none⟩ = some (.int .i64 a6) ∧ W1.cell? ⟨w5.heap.size, 7, none⟩ = some (.int .i64 a7))) := fun W1 h =>
    ⟨h, (HCA7.out.below h (by omega)).eight, (HCB7.out.below h (by omega)).eight⟩
  clear hrA HCA5 HB5 HCA7 HCB7
  go_wp2_with fail
  have hb0 : Below w6.heap.size w6 w6.drew := (Below.refl _ _).drew
  have hr0 : (0 : Int) ≤ (r : Int) := by omega
  have hrc : (r : Int) ≤ (c : Int) := by omega
  have hmax := HMX.out
  have hmin := HMN.out
  have HEE := HE
  obtain ⟨h1, h2⟩ := HCASE.out
  rw [show (z == 0 && !b) = false by rw [h1, h2]; rfl] at HEE
  clear HE
  rcases hAA with rfl | ⟨ab, ao, rfl⟩
  all_goals
    refine wp_region_noPanic ?_
    refine wp_region_held_drew (S := (fun W1 => Below w6.heap.size w6 W1 ∧ (W1.cell? ⟨w1.heap.size, 0, none⟩ = some (.bool b) ∧ W1.cell? ⟨w1.heap.size, 1, none⟩ = some (.int .i64 a1) ∧ W1.cell? ⟨w1.heap.size, 2, none⟩ = some (.int .i64 a2) ∧ W1.cell? ⟨w1.heap.size, 3, none⟩ = some (.int .i64 a3) ∧ W1.cell? ⟨w1.heap.size, 4, none⟩ = some (.int .i64 a4) ∧ W1.cell? ⟨w1.heap.size, 5, none⟩ = some (.int .i64 a5) ∧ W1.cell? ⟨w1.heap.size, 6, none⟩ = some (.int .i64 a6) ∧ W1.cell? ⟨w1.heap.size, 7, none⟩ = some (.int .i64 a7)) ∧ (W1.cell? ⟨w5.heap.size, 0, none⟩ = some (.bool b) ∧ W1.cell? ⟨w5.heap.size, 1, none⟩ = some (.int .i64 a1) ∧ W1.cell? ⟨w5.heap.size, 2, none⟩ = some (.int .i64 a2) ∧ W1.cell? ⟨w5.heap.size, 3, none⟩ = some (.int .i64 a3) ∧ W1.cell? ⟨w5.heap.size, 4, none⟩ = some (.int .i64 a4) ∧ W1.cell? ⟨w5.heap.size, 5, none⟩ = some (.int .i64 a5) ∧ W1.cell? ⟨w5.heap.size, 6, none⟩ = some (.int .i64 a6) ∧ W1.cell? ⟨w5.heap.size, 7, none⟩ = some (.int .i64 a7)))) (by kernel_rfl) ?_ (fun hH0 => ?_)
    · (try dsimp only)
      first | assumption | exact HS.out _ (by assumption)
    refine wpAnyH_take (i := 0) (v := ?_) rfl (by kernel_rfl) (by kernel_rfl) (by kernel_rfl) (fun _ _ _ h => (h : False).elim) (Or.inl ⟨by rfl, ?_⟩) (by assumption) ?_
    rotate_left
    · intro w hSw
      (try dsimp only at hSw)
      go_simp
      try with_reducible rfl
    try simp only [Act.put, List.getElem_toArray, List.getElem_cons_zero, List.getElem_cons_succ, List.setIfInBounds_toArray, List.set_cons_zero, List.set_cons_succ]
    refine wpAnyH_take (i := 1) (v := ?_) rfl (by kernel_rfl) (by kernel_rfl) (by kernel_rfl) (fun _ _ _ h => (h : False).elim) (Or.inl ⟨by rfl, ?_⟩) (by assumption) ?_
    rotate_left
    · intro w hSw
      (try dsimp only at hSw)
      go_simp
      try with_reducible rfl
    try simp only [Act.put, List.getElem_toArray, List.getElem_cons_zero, List.getElem_cons_succ, List.setIfInBounds_toArray, List.set_cons_zero, List.set_cons_succ]
    refine wpAnyH_take (i := 2) (v := ?_) rfl (by kernel_rfl) (by kernel_rfl) (by kernel_rfl) (fun _ _ _ h => (h : False).elim) (Or.inl ⟨by rfl, ?_⟩) (by assumption) ?_
    rotate_left
    · intro w hSw
      (try dsimp only at hSw)
      go_simp
      try with_reducible rfl
    try simp only [Act.put, List.getElem_toArray, List.getElem_cons_zero, List.getElem_cons_succ, List.setIfInBounds_toArray, List.set_cons_zero, List.set_cons_succ]
    refine wpAnyH_take (i := 3) (v := ?_) rfl (by kernel_rfl) (by kernel_rfl) (by kernel_rfl) (fun _ _ _ h => (h : False).elim) (Or.inl ⟨by rfl, ?_⟩) (by assumption) ?_
    rotate_left
    · intro w hSw
      (try dsimp only at hSw)
      go_simp
      try with_reducible rfl
    try simp only [Act.put, List.getElem_toArray, List.getElem_cons_zero, List.getElem_cons_succ, List.setIfInBounds_toArray, List.set_cons_zero, List.set_cons_succ]
    refine wpAnyH_take (i := 4) (v := ?_) rfl (by kernel_rfl) (by kernel_rfl) (by kernel_rfl) (fun _ _ _ h => (h : False).elim) (Or.inl ⟨by rfl, ?_⟩) (by assumption) ?_
    rotate_left
    · intro w hSw
      (try dsimp only at hSw)
      go_simp
      try with_reducible rfl
    try simp only [Act.put, List.getElem_toArray, List.getElem_cons_zero, List.getElem_cons_succ, List.setIfInBounds_toArray, List.set_cons_zero, List.set_cons_succ]
    refine wpAnyH_take (i := 6) (v := ?_) rfl (by kernel_rfl) (by kernel_rfl) (by kernel_rfl) (fun _ _ _ h => (h : False).elim) (Or.inl ⟨by rfl, ?_⟩) (by assumption) ?_
    rotate_left
    · intro w hSw
      (try dsimp only at hSw)
      go_simp
      try with_reducible rfl
    try simp only [Act.put, List.getElem_toArray, List.getElem_cons_zero, List.getElem_cons_succ, List.setIfInBounds_toArray, List.set_cons_zero, List.set_cons_succ]
    refine wpAnyH_ready (rs := [5]) (by kernel_rfl) (by simp) ?_
    refine AllReadyH.cons rfl (fun K hK => ?_) AllReadyH.nil
    go_simp
    refine (num_any _ _).mono ?_
    rintro e w9 ⟨rfl, hw9⟩
    obtain rfl := hw9.symm
    refine hK.out _ _ ?_ (fun hH1 => ?_)
    · (try dsimp only)
      first | assumption | exact HS.out _ (by assumption)
    clear hK K hH0
    try simp only [Act.put, List.getElem_toArray, List.getElem_cons_zero, List.getElem_cons_succ, List.setIfInBounds_toArray, List.set_cons_zero, List.set_cons_succ]
    refine wpAnyH_take (i := 7) (v := ?_) rfl (by kernel_rfl) (by kernel_rfl) (by kernel_rfl) (fun _ _ _ h => (h : False).elim) (Or.inl ⟨by rfl, ?_⟩) (by assumption) ?_
    rotate_left
    · intro w hSw
      (try dsimp only at hSw)
      go_simp
      try with_reducible rfl
    try simp only [Act.put, List.getElem_toArray, List.getElem_cons_zero, List.getElem_cons_succ, List.setIfInBounds_toArray, List.set_cons_zero, List.set_cons_succ]
    refine wpAnyH_take (i := 8) (v := ?_) rfl (by kernel_rfl) (by kernel_rfl) (by kernel_rfl) (fun _ _ _ h => (h : False).elim) (Or.inl ⟨by rfl, ?_⟩) (by assumption) ?_
    rotate_left
    · intro w hSw
      (try dsimp only at hSw)
      go_simp
      try with_reducible rfl
    try simp only [Act.put, List.getElem_toArray, List.getElem_cons_zero, List.getElem_cons_succ, List.setIfInBounds_toArray, List.set_cons_zero, List.set_cons_succ]
    refine wpAnyH_take (i := 9) (v := ?_) rfl (by kernel_rfl) (by kernel_rfl) (by kernel_rfl) (fun _ _ _ h => (h : False).elim) (Or.inl ⟨by rfl, ?_⟩) (by assumption) ?_
    rotate_left
    · intro w hSw
      (try dsimp only at hSw)
      go_simp
      try with_reducible rfl
    try simp only [Act.put, List.getElem_toArray, List.getElem_cons_zero, List.getElem_cons_succ, List.setIfInBounds_toArray, List.set_cons_zero, List.set_cons_succ]
    refine wpAnyH_take (i := 10) (v := ?_) rfl (by kernel_rfl) (by kernel_rfl) (by kernel_rfl) (fun _ _ _ h => (h : False).elim) (Or.inl ⟨by rfl, ?_⟩) (by assumption) ?_
    rotate_left
    · intro w hSw
      (try dsimp only at hSw)
      go_simp
      try with_reducible rfl
    try simp only [Act.put, List.getElem_toArray, List.getElem_cons_zero, List.getElem_cons_succ, List.setIfInBounds_toArray, List.set_cons_zero, List.set_cons_succ]
    refine wpAnyH_take (i := 11) (v := ?_) rfl (by kernel_rfl) (by kernel_rfl) (by kernel_rfl) (fun _ _ _ h => (h : False).elim) (Or.inl ⟨by rfl, ?_⟩) (by assumption) ?_
    rotate_left
    · intro w hSw
      (try dsimp only at hSw)
      go_simp
      try with_reducible rfl
    try simp only [Act.put, List.getElem_toArray, List.getElem_cons_zero, List.getElem_cons_succ, List.setIfInBounds_toArray, List.set_cons_zero, List.set_cons_succ]
    refine wpAnyH_take (i := 13) (v := ?_) rfl (by kernel_rfl) (by kernel_rfl) (by kernel_rfl) (fun _ _ _ h => (h : False).elim) (Or.inl ⟨by rfl, ?_⟩) (by assumption) ?_
    rotate_left
    · intro w hSw
      (try dsimp only at hSw)
      go_simp
      try with_reducible rfl
    try simp only [Act.put, List.getElem_toArray, List.getElem_cons_zero, List.getElem_cons_succ, List.setIfInBounds_toArray, List.set_cons_zero, List.set_cons_succ]
    refine wpAnyH_take (i := 14) (v := ?_) rfl (by kernel_rfl) (by kernel_rfl) (by kernel_rfl) (fun _ _ _ h => (h : False).elim) (Or.inl ⟨by rfl, ?_⟩) (by assumption) ?_
    rotate_left
    · intro w hSw
      (try dsimp only at hSw)
      go_simp
      try with_reducible rfl
    try simp only [Act.put, List.getElem_toArray, List.getElem_cons_zero, List.getElem_cons_succ, List.setIfInBounds_toArray, List.set_cons_zero, List.set_cons_succ]
    refine wpAnyH_ready (rs := [12]) (by kernel_rfl) (by simp) ?_
    refine AllReadyH.cons rfl (fun K hK => ?_) AllReadyH.nil
    go_simp
    refine (HEE.out _ (HRX.out _ (show Below w6.heap.size w6 _ ∧ _ from by assumption).1)).mono ?_
    rintro e v1 ⟨rfl, hb4⟩
    have hb4 := below_trans (show Below w6.heap.size w6 _ ∧ _ from by assumption).1 hb4
    refine hK.out _ _ ?_ (fun hH2 => ?_)
    · (try dsimp only)
      first | assumption | exact HS.out _ (by assumption)
    clear hK K hH1
    try simp only [Act.put, List.getElem_toArray, List.getElem_cons_zero, List.getElem_cons_succ, List.setIfInBounds_toArray, List.set_cons_zero, List.set_cons_succ]
    refine wpAnyH_take (i := 15) (v := ?_) rfl (by kernel_rfl) (by kernel_rfl) (by kernel_rfl) (fun _ _ _ h => (h : False).elim) (Or.inl ⟨by rfl, ?_⟩) (by assumption) ?_
    rotate_left
    · intro w hSw
      (try dsimp only at hSw)
      go_simp
      try with_reducible rfl
    try simp only [Act.put, List.getElem_toArray, List.getElem_cons_zero, List.getElem_cons_succ, List.setIfInBounds_toArray, List.set_cons_zero, List.set_cons_succ]
    refine wpAnyH_take (i := 16) (v := ?_) rfl (by kernel_rfl) (by kernel_rfl) (by kernel_rfl) (fun _ _ _ h => (h : False).elim) (Or.inl ⟨by rfl, ?_⟩) (by assumption) ?_
    rotate_left
    · intro w hSw
      (try dsimp only at hSw)
      go_simp
      try with_reducible rfl
    try simp only [Act.put, List.getElem_toArray, List.getElem_cons_zero, List.getElem_cons_succ, List.setIfInBounds_toArray, List.set_cons_zero, List.set_cons_succ]
    refine wpAnyH_take (i := 17) (v := ?_) rfl (by kernel_rfl) (by kernel_rfl) (by kernel_rfl) (fun _ _ _ h => (h : False).elim) (Or.inl ⟨by rfl, ?_⟩) (by assumption) ?_
    rotate_left
    · intro w hSw
      (try dsimp only at hSw)
      go_simp
      try with_reducible rfl
    try simp only [Act.put, List.getElem_toArray, List.getElem_cons_zero, List.getElem_cons_succ, List.setIfInBounds_toArray, List.set_cons_zero, List.set_cons_succ]
    refine wpAnyH_take (i := 18) (v := ?_) rfl (by kernel_rfl) (by kernel_rfl) (by kernel_rfl) (fun _ _ _ h => (h : False).elim) (Or.inl ⟨by rfl, ?_⟩) (by assumption) ?_
    rotate_left
    · intro w hSw
      (try dsimp only at hSw)
      go_simp
      try with_reducible rfl
    try simp only [Act.put, List.getElem_toArray, List.getElem_cons_zero, List.getElem_cons_succ, List.setIfInBounds_toArray, List.set_cons_zero, List.set_cons_succ]
    refine wpAnyH_take (i := 19) (v := ?_) rfl (by kernel_rfl) (by kernel_rfl) (by kernel_rfl) (fun _ _ _ h => (h : False).elim) (Or.inl ⟨by rfl, ?_⟩) (by assumption) ?_
    rotate_left
    · intro w hSw
      (try dsimp only at hSw)
      go_simp
      try with_reducible rfl
    try simp only [Act.put, List.getElem_toArray, List.getElem_cons_zero, List.getElem_cons_succ, List.setIfInBounds_toArray, List.set_cons_zero, List.set_cons_succ]
    refine wpAnyH_take (i := 20) (v := ?_) rfl (by kernel_rfl) (by kernel_rfl) (by kernel_rfl) (fun _ _ _ h => (h : False).elim) (Or.inl ⟨by rfl, ?_⟩) (by assumption) ?_
    rotate_left
    · intro w hSw
      (try dsimp only at hSw)
      go_simp
      try with_reducible rfl
    try simp only [Act.put, List.getElem_toArray, List.getElem_cons_zero, List.getElem_cons_succ, List.setIfInBounds_toArray, List.set_cons_zero, List.set_cons_succ]
    refine wpAnyH_take (i := 21) (v := ?_) rfl (by kernel_rfl) (by kernel_rfl) (by kernel_rfl) (fun _ _ _ h => (h : False).elim) (Or.inl ⟨by rfl, ?_⟩) (by assumption) ?_
    rotate_left
    · intro w hSw
      (try dsimp only at hSw)
      go_simp
      try with_reducible rfl
    try simp only [Act.put, List.getElem_toArray, List.getElem_cons_zero, List.getElem_cons_succ, List.setIfInBounds_toArray, List.set_cons_zero, List.set_cons_succ]
    refine wpAnyH_take (i := 22) (v := ?_) rfl (by kernel_rfl) (by kernel_rfl) (by kernel_rfl) (fun _ _ _ h => (h : False).elim) (Or.inl ⟨by rfl, ?_⟩) (by assumption) ?_
    rotate_left
    · intro w hSw
      (try dsimp only at hSw)
      go_simp
      try with_reducible rfl
    try simp only [Act.put, List.getElem_toArray, List.getElem_cons_zero, List.getElem_cons_succ, List.setIfInBounds_toArray, List.set_cons_zero, List.set_cons_succ]
    refine wpAnyH_take (i := 23) (v := ?_) rfl (by kernel_rfl) (by kernel_rfl) (by kernel_rfl) (fun _ _ _ h => (h : False).elim) (Or.inl ⟨by rfl, ?_⟩) (by assumption) ?_
    rotate_left
    · intro w hSw
      (try dsimp only at hSw)
      go_simp
      try with_reducible rfl
    try simp only [Act.put, List.getElem_toArray, List.getElem_cons_zero, List.getElem_cons_succ, List.setIfInBounds_toArray, List.set_cons_zero, List.set_cons_succ]
    refine wpAnyH_take (i := 24) (v := ?_) rfl (by kernel_rfl) (by kernel_rfl) (by kernel_rfl) (fun _ _ _ h => (h : False).elim) (Or.inl ⟨by rfl, ?_⟩) (by assumption) ?_
    rotate_left
    · intro w hSw
      (try dsimp only at hSw)
      go_simp
      try with_reducible rfl
    try simp only [Act.put, List.getElem_toArray, List.getElem_cons_zero, List.getElem_cons_succ, List.setIfInBounds_toArray, List.set_cons_zero, List.set_cons_succ]
    refine wpAnyH_take (i := 26) (v := ?_) rfl (by kernel_rfl) (by kernel_rfl) (by kernel_rfl) (fun _ _ _ h => (h : False).elim) (Or.inl ⟨by rfl, ?_⟩) (by assumption) ?_
    rotate_left
    · intro w hSw
      (try dsimp only at hSw)
      go_simp
      try with_reducible rfl
    try simp only [Act.put, List.getElem_toArray, List.getElem_cons_zero, List.getElem_cons_succ, List.setIfInBounds_toArray, List.set_cons_zero, List.set_cons_succ]
    refine wpAnyH_ready (rs := [25]) (by kernel_rfl) (by simp) ?_
    refine AllReadyH.cons rfl (fun K hK => ?_) AllReadyH.nil
    go_simp
    refine (HX.out _ (HRX.out _ (show Below w6.heap.size w6 _ ∧ _ from by assumption).1)).mono ?_
    rintro e v2 ⟨A4, c4, rfl, hr4, hk4, hb4⟩
    have hb4 := below_trans (show Below w6.heap.size w6 _ ∧ _ from by assumption).1 hb4
    refine hK.out _ _ ?_ (fun hH3 => ?_)
    · (try dsimp only)
      first | assumption | exact HS.out _ (by assumption)
    clear hK K hH2
    try simp only [Act.put, List.getElem_toArray, List.getElem_cons_zero, List.getElem_cons_succ, List.setIfInBounds_toArray, List.set_cons_zero, List.set_cons_succ]
    refine wpAnyH_ready (rs := [27]) (by kernel_rfl) (by simp) ?_
    refine AllReadyH.cons rfl (fun K hK => ?_) AllReadyH.nil
    go_simp
    refine (HI.out ln A4 c4 _ c _ (Nat.le_refl _) hk4 hlc hr4 (HRL.out _ _ (show Below w6.heap.size w6 _ ∧ _ from by assumption).1)).mono ?_
    rintro e v3 ⟨rfl, hb4⟩
    have hb4 := below_trans (show Below w6.heap.size w6 _ ∧ _ from by assumption).1 hb4
    refine hK.out _ _ ?_ (fun hH4 => ?_)
    · (try dsimp only)
      first | assumption | exact HS.out _ (by assumption)
    clear hK K hH3
    try simp only [Act.put, List.getElem_toArray, List.getElem_cons_zero, List.getElem_cons_succ, List.setIfInBounds_toArray, List.set_cons_zero, List.set_cons_succ]
    refine wpAnyH_take (i := 28) (v := ?_) rfl (by kernel_rfl) (by kernel_rfl) (by kernel_rfl) (fun _ _ _ h => (h : False).elim) (Or.inl ⟨by rfl, ?_⟩) (by assumption) ?_
    rotate_left
    · intro w hSw
      (try dsimp only at hSw)
      go_simp
      try with_reducible rfl
    try simp only [Act.put, List.getElem_toArray, List.getElem_cons_zero, List.getElem_cons_succ, List.setIfInBounds_toArray, List.set_cons_zero, List.set_cons_succ]
    refine wpAnyH_take (i := 29) (v := ?_) rfl (by kernel_rfl) (by kernel_rfl) (by kernel_rfl) (fun _ _ _ h => (h : False).elim) (Or.inl ⟨by rfl, ?_⟩) (by assumption) ?_
    rotate_left
    · intro w hSw
      (try dsimp only at hSw)
      go_simp
      try with_reducible rfl
    try simp only [Act.put, List.getElem_toArray, List.getElem_cons_zero, List.getElem_cons_succ, List.setIfInBounds_toArray, List.set_cons_zero, List.set_cons_succ]
    refine wpAnyH_take (i := 30) (v := ?_) rfl (by kernel_rfl) (by kernel_rfl) (by kernel_rfl) (fun _ _ _ h => (h : False).elim) (Or.inl ⟨by rfl, ?_⟩) (by assumption) ?_
    rotate_left
    · intro w hSw
      (try dsimp only at hSw)
      go_simp
      try with_reducible rfl
    try simp only [Act.put, List.getElem_toArray, List.getElem_cons_zero, List.getElem_cons_succ, List.setIfInBounds_toArray, List.set_cons_zero, List.set_cons_succ]
    refine wpAnyH_take (i := 31) (v := ?_) rfl (by kernel_rfl) (by kernel_rfl) (by kernel_rfl) (fun _ _ _ h => (h : False).elim) (Or.inl ⟨by rfl, ?_⟩) (by assumption) ?_
    rotate_left
    · intro w hSw
      (try dsimp only at hSw)
      go_simp
      try with_reducible rfl
    try simp only [Act.put, List.getElem_toArray, List.getElem_cons_zero, List.getElem_cons_succ, List.setIfInBounds_toArray, List.set_cons_zero, List.set_cons_succ]
    refine wpAnyH_take (i := 32) (v := ?_) rfl (by kernel_rfl) (by kernel_rfl) (by kernel_rfl) (fun _ _ _ h => (h : False).elim) (Or.inl ⟨by rfl, ?_⟩) (by assumption) ?_
    rotate_left
    · intro w hSw
      (try dsimp only at hSw)
      go_simp
      try with_reducible rfl
    try simp only [Act.put, List.getElem_toArray, List.getElem_cons_zero, List.getElem_cons_succ, List.setIfInBounds_toArray, List.set_cons_zero, List.set_cons_succ]
    refine wpAnyH_take (i := 35) (v := ?_) rfl (by kernel_rfl) (by kernel_rfl) (by kernel_rfl) (fun _ _ _ h => (h : False).elim) (Or.inl ⟨by rfl, ?_⟩) (by assumption) ?_
    rotate_left
    · intro w hSw
      (try dsimp only at hSw)
      go_simp
      try with_reducible rfl
    try simp only [Act.put, List.getElem_toArray, List.getElem_cons_zero, List.getElem_cons_succ, List.setIfInBounds_toArray, List.set_cons_zero, List.set_cons_succ]
    refine wpAnyH_take (i := 36) (v := ?_) rfl (by kernel_rfl) (by kernel_rfl) (by kernel_rfl) (fun _ _ _ h => (h : False).elim) (Or.inl ⟨by rfl, ?_⟩) (by assumption) ?_
    rotate_left
    · intro w hSw
      (try dsimp only at hSw)
      go_simp
      try with_reducible rfl
    try simp only [Act.put, List.getElem_toArray, List.getElem_cons_zero, List.getElem_cons_succ, List.setIfInBounds_toArray, List.set_cons_zero, List.set_cons_succ]
    refine wpAnyH_take (i := 37) (v := ?_) rfl (by kernel_rfl) (by kernel_rfl) (by kernel_rfl) (fun _ _ _ h => (h : False).elim) (Or.inl ⟨by rfl, ?_⟩) (by assumption) ?_
    rotate_left
    · intro w hSw
      (try dsimp only at hSw)
      go_simp
      try with_reducible rfl
    try simp only [Act.put, List.getElem_toArray, List.getElem_cons_zero, List.getElem_cons_succ, List.setIfInBounds_toArray, List.set_cons_zero, List.set_cons_succ]
    refine wpAnyH_take (i := 38) (v := ?_) rfl (by kernel_rfl) (by kernel_rfl) (by kernel_rfl) (fun _ _ _ h => (h : False).elim) (Or.inl ⟨by rfl, ?_⟩) (by assumption) ?_
    rotate_left
    · intro w hSw
      (try dsimp only at hSw)
      go_simp
      try with_reducible rfl
    try simp only [Act.put, List.getElem_toArray, List.getElem_cons_zero, List.getElem_cons_succ, List.setIfInBounds_toArray, List.set_cons_zero, List.set_cons_succ]
    refine wpAnyH_take (i := 33) (v := ?_) rfl (by kernel_rfl) (by kernel_rfl) (by kernel_rfl) (fun _ _ _ h => (h : False).elim) (Or.inl ⟨by rfl, ?_⟩) (by assumption) ?_
    rotate_left
    · intro w hSw
      (try dsimp only at hSw)
      go_simp
      try with_reducible rfl
    try simp only [Act.put, List.getElem_toArray, List.getElem_cons_zero, List.getElem_cons_succ, List.setIfInBounds_toArray, List.set_cons_zero, List.set_cons_succ]
    refine wpAnyH_take (i := 39) (v := ?_) rfl (by kernel_rfl) (by kernel_rfl) (by kernel_rfl) (fun _ _ _ h => (h : False).elim) (Or.inl ⟨by rfl, ?_⟩) (by assumption) ?_
    rotate_left
    · intro w hSw
      (try dsimp only at hSw)
      go_simp
      try with_reducible rfl
    try simp only [Act.put, List.getElem_toArray, List.getElem_cons_zero, List.getElem_cons_succ, List.setIfInBounds_toArray, List.set_cons_zero, List.set_cons_succ]
    refine wpAnyH_take (i := 40) (v := ?_) rfl (by kernel_rfl) (by kernel_rfl) (by kernel_rfl) (fun _ _ _ h => (h : False).elim) (Or.inl ⟨by rfl, ?_⟩) (by assumption) ?_
    rotate_left
    · intro w hSw
      (try dsimp only at hSw)
      go_simp
      try with_reducible rfl
    try simp only [Act.put, List.getElem_toArray, List.getElem_cons_zero, List.getElem_cons_succ, List.setIfInBounds_toArray, List.set_cons_zero, List.set_cons_succ]
    refine wpAnyH_take (i := 41) (v := ?_) rfl (by kernel_rfl) (by kernel_rfl) (by kernel_rfl) (fun _ _ _ h => (h : False).elim) (Or.inl ⟨by rfl, ?_⟩) (by assumption) ?_
    rotate_left
    · intro w hSw
      (try dsimp only at hSw)
      go_simp
      try with_reducible rfl
    try simp only [Act.put, List.getElem_toArray, List.getElem_cons_zero, List.getElem_cons_succ, List.setIfInBounds_toArray, List.set_cons_zero, List.set_cons_succ]
    refine wpAnyH_ready (rs := [34]) (by kernel_rfl) (by simp) ?_
    refine AllReadyH.cons rfl (fun K hK => ?_) AllReadyH.nil
    go_simp
    refine (HY.out _ (HRX.out _ (show Below w6.heap.size w6 _ ∧ _ from by assumption).1)).mono ?_
    rintro e v4 ⟨A7, c7, rfl, hr7, hk7, hb4⟩
    have hb4 := below_trans (show Below w6.heap.size w6 _ ∧ _ from by assumption).1 hb4
    refine hK.out _ _ ?_ (fun hH5 => ?_)
    · (try dsimp only)
      first | assumption | exact HS.out _ (by assumption)
    clear hK K hH4
    try simp only [Act.put, List.getElem_toArray, List.getElem_cons_zero, List.getElem_cons_succ, List.setIfInBounds_toArray, List.set_cons_zero, List.set_cons_succ]
    refine wpAnyH_ready (rs := [42]) (by kernel_rfl) (by simp) ?_
    refine AllReadyH.cons rfl (fun K hK => ?_) AllReadyH.nil
    go_simp
    refine (HI.out r A7 c7 _ c _ hrl hk7 (Nat.le_trans hrl hlc) hr7 (HRL.out _ _ (show Below w6.heap.size w6 _ ∧ _ from by assumption).1)).mono ?_
    rintro e v5 ⟨rfl, hb4⟩
    have hb4 := below_trans (show Below w6.heap.size w6 _ ∧ _ from by assumption).1 hb4
    refine hK.out _ _ ?_ (fun hH6 => ?_)
    · (try dsimp only)
      first | assumption | exact HS.out _ (by assumption)
    clear hK K hH5
    try simp only [Act.put, List.getElem_toArray, List.getElem_cons_zero, List.getElem_cons_succ, List.setIfInBounds_toArray, List.set_cons_zero, List.set_cons_succ]
    refine wpAnyH_take (i := 43) (v := ?_) rfl (by kernel_rfl) (by kernel_rfl) (by kernel_rfl) (fun _ _ _ h => (h : False).elim) (Or.inl ⟨by rfl, ?_⟩) (by assumption) ?_
    rotate_left
    · intro w hSw
      (try dsimp only at hSw)
      go_simp
      try with_reducible rfl
    try simp only [Act.put, List.getElem_toArray, List.getElem_cons_zero, List.getElem_cons_succ, List.setIfInBounds_toArray, List.set_cons_zero, List.set_cons_succ]
    refine wpAnyH_take (i := 44) (v := ?_) rfl (by kernel_rfl) (by kernel_rfl) (by kernel_rfl) (fun _ _ _ h => (h : False).elim) (Or.inl ⟨by rfl, ?_⟩) (by assumption) ?_
    rotate_left
    · intro w hSw
      (try dsimp only at hSw)
      go_simp
      try with_reducible rfl
    try simp only [Act.put, List.getElem_toArray, List.getElem_cons_zero, List.getElem_cons_succ, List.setIfInBounds_toArray, List.set_cons_zero, List.set_cons_succ]
    refine wpAnyH_ready (rs := [45]) (by kernel_rfl) (by simp) ?_
    refine AllReadyH.cons rfl (fun K hK => ?_) AllReadyH.nil
    go_simp
    refine (HK.out _).mono ?_
    rintro e v6 ⟨rfl, hb4⟩
    have hb4 := below_trans (show Below w6.heap.size w6 _ ∧ _ from by assumption).1 hb4
    refine hK.out _ _ ?_ (fun hH7 => ?_)
    · (try dsimp only)
      first | assumption | exact HS.out _ (by assumption)
    clear hK K hH6
    try simp only [Act.put, List.getElem_toArray, List.getElem_cons_zero, List.getElem_cons_succ, List.setIfInBounds_toArray, List.set_cons_zero, List.set_cons_succ]
    refine wpAnyH_take (i := 46) (v := ?_) rfl (by kernel_rfl) (by kernel_rfl) (by kernel_rfl) (fun _ _ _ h => (h : False).elim) (Or.inl ⟨by rfl, ?_⟩) (by assumption) ?_
    rotate_left
    · intro w hSw
      (try dsimp only at hSw)
      go_simp
      try with_reducible rfl
    try simp only [Act.put, List.getElem_toArray, List.getElem_cons_zero, List.getElem_cons_succ, List.setIfInBounds_toArray, List.set_cons_zero, List.set_cons_succ]
    refine wpAnyH_take (i := 47) (v := ?_) rfl (by kernel_rfl) (by kernel_rfl) (by kernel_rfl) (fun _ _ _ h => (h : False).elim) (Or.inl ⟨by rfl, ?_⟩) (by assumption) ?_
    rotate_left
    · intro w hSw
      (try dsimp only at hSw)
      go_simp
      try with_reducible rfl
    try simp only [Act.put, List.getElem_toArray, List.getElem_cons_zero, List.getElem_cons_succ, List.setIfInBounds_toArray, List.set_cons_zero, List.set_cons_succ]
    refine wpAnyH_done (by kernel_rfl) ?_ _
    refine NoPanic.normal ?_
    go_wp2_with fail
    go_ret
    exact ⟨rfl, HB7.out.trans (hb4.mono (by omega))⟩
end Go.Proofs.YtdlblbhmeidhbaaGreatDoor
