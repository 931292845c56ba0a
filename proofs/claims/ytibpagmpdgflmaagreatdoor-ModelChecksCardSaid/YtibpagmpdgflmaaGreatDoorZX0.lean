/- The laws ModelEquals and ModelChecks as calls, at whatever arguments, where the chapter's rows are met. Conditions: the chapter's rows. The law ModelChecks as a call, at whatever argument, where the chapter's rows are met. Conditions: the chapter's rows. -/
import Derived.Test.YtibpagmpdgflmaaGreatDoorZJL
import Derived.Test.YtibpagmpdgflmaaGreatDoorZYT
import Derived.Test.YtibpagmpdgflmaaGreatDoorZW1
namespace Go.Proofs.YtibpagmpdgflmaaGreatDoor
open Go.RowKit Go.Maps
attribute [local go_sem] Oper.semAt_some

theorem eqR_symm (a0 a1 a2 a3 b0 b1 b2 b3 : Int) (xs ys : List ByteArray) (u v : List UInt8) : eqR b0 b1 b2 b3 a0 a1 a2 a3 ys xs v u = eqR a0 a1 a2 a3 b0 b1 b2 b3 xs ys u v := by
  rw [Bool.eq_iff_iff]
  simp only [eqR, eqL, Bool.and_eq_true, beq_iff_eq, decide_eq_true_eq]
  constructor <;> (rintro ⟨⟨⟨⟨⟨rfl, rfl⟩, rfl⟩, rfl⟩, rfl⟩, rfl⟩; simp)
theorem eqR_self (a0 a1 a2 a3 : Int) (xs : List ByteArray) (u : List UInt8) : eqR a0 a1 a2 a3 a0 a1 a2 a3 xs xs u u = true := by
  simp [eqR, eqL]
/-- What an argument's cells are. -/
def resCells (a0 a1 a2 a3 : Int) (NA : Option Addr) (nn nc : Nat) (BA : Option Addr) (bn bc : Nat) : Nat → Value := cellsO' a0 a1 a2 a3 NA nn nc BA bn bc
theorem res_pair (W : World) (a0 a1 a2 a3 b0 b1 b2 b3 : Int) (NA NB BA BB : Option Addr) (nn nc bn bc mn mc cn cc : Nat) {W0 : World}
    (hW0 : (W.alloc (.cells #[.int .i64 a0, .int .i64 a1, .int .i64 a2, .int .i64 a3, .slice NA nn nc, .slice BA bn bc] 27)).alloc (.cells #[.int .i64 b0, .int .i64 b1, .int .i64 b2, .int .i64 b3, .slice NB mn mc, .slice BB cn cc] 27) = W0) :
    Below W.heap.size W W0 ∧ W0.heap.size = W.heap.size + 2 ∧ CellsAt W0 W.heap.size 6 (cellsO' a0 a1 a2 a3 NA nn nc BA bn bc) ∧ CellsAt W0 (W.heap.size + 1) 6 (cellsO' b0 b1 b2 b3 NB mn mc BB cn cc) := by
  subst hW0
  have hb0 := ((Below.refl W.heap.size W).alloc (Nat.le_refl _) (.cells #[.int .i64 a0, .int .i64 a1, .int .i64 a2, .int .i64 a3, .slice NA nn nc, .slice BA bn bc] 27)).alloc (by simp) (.cells #[.int .i64 b0, .int .i64 b1, .int .i64 b2, .int .i64 b3, .slice NB mn mc, .slice BB cn cc] 27)
  have c1 := cellsAt_new W #[.int .i64 a0, .int .i64 a1, .int .i64 a2, .int .i64 a3, .slice NA nn nc, .slice BA bn bc] 27 6 (cellsO' a0 a1 a2 a3 NA nn nc BA bn bc) fun i hi => match i, hi with | 0, _ => rfl | 1, _ => rfl | 2, _ => rfl | 3, _ => rfl | 4, _ => rfl | 5, _ => rfl
  have c2 := cellsAt_new (W.alloc (.cells #[.int .i64 a0, .int .i64 a1, .int .i64 a2, .int .i64 a3, .slice NA nn nc, .slice BA bn bc] 27)) #[.int .i64 b0, .int .i64 b1, .int .i64 b2, .int .i64 b3, .slice NB mn mc, .slice BB cn cc] 27 6 (cellsO' b0 b1 b2 b3 NB mn mc BB cn cc) fun i hi => match i, hi with | 0, _ => rfl | 1, _ => rfl | 2, _ => rfl | 3, _ => rfl | 4, _ => rfl | 5, _ => rfl
  rw [show (W.alloc (.cells #[.int .i64 a0, .int .i64 a1, .int .i64 a2, .int .i64 a3, .slice NA nn nc, .slice BA bn bc] 27)).heap.size = W.heap.size + 1 from by simp] at c2
  exact ⟨hb0, by simp, c1.below (m := W.heap.size + 1) ((Below.refl _ _).alloc (by simp) _) (by omega), c2⟩
def Works : Prop := ∀ W : World, Calls Tryz.prog 10 #[] W fun e W' => e = .returned (.bool true) ∧ Below W.heap.size W W'
set_option maxRecDepth 200000 in
set_option maxHeartbeats 8000000 in
theorem modelEquals_of (HWK : Works) (a0 a1 a2 a3 : Int) (NA : Option Addr) (nn nc : Nat) (xs : List ByteArray) (BA : Option Addr) (bn bc : Nat) (u : List UInt8) (b0 b1 b2 b3 : Int) (NB : Option Addr) (mn mc : Nat) (ys : List ByteArray) (BB : Option Addr) (cn cc : Nat) (v : List UInt8) (W : World)
    (h1 : xs.length = nn) (hm : nn ≤ maxLen) (r1 : RowAt W NA (xs.map .string)) (h3 : u.length = bn) (hm3 : bn ≤ maxLen) (r3 : RowAt W BA (u.map encB))
    (h2 : ys.length = mn) (hm2 : mn ≤ maxLen) (r2 : RowAt W NB (ys.map .string)) (h4 : v.length = cn) (hm4 : cn ≤ maxLen) (r4 : RowAt W BB (v.map encB)) :
    Calls Tryz.prog 3 #[.agg #[.int .i64 a0, .int .i64 a1, .int .i64 a2, .int .i64 a3, .slice NA nn nc, .slice BA bn bc], .agg #[.int .i64 b0, .int .i64 b1, .int .i64 b2, .int .i64 b3, .slice NB mn mc, .slice BB cn cc]] W fun e W' => e = .returned (.bool true) ∧ Below W.heap.size W W' := by
  obtain ⟨W0, hW0⟩ : ∃ W0, (W.alloc (.cells #[.int .i64 a0, .int .i64 a1, .int .i64 a2, .int .i64 a3, .slice NA nn nc, .slice BA bn bc] 27)).alloc (.cells #[.int .i64 b0, .int .i64 b1, .int .i64 b2, .int .i64 b3, .slice NB mn mc, .slice BB cn cc] 27) = W0 := ⟨_, rfl⟩
  obtain ⟨hb0, hs0, hA, hB⟩ := res_pair W a0 a1 a2 a3 b0 b1 b2 b3 NA NB BA BB nn nc bn bc mn mc cn cc hW0
  have HRE := Lib.hid (fun W' (hb : Below W.heap.size W W') => requal_any a0 a1 a2 a3 b0 b1 b2 b3 xs ys u v NA NB BA BB nn nc bn bc mn mc cn cc W' h1 h2 h3 h4 hm (r1.below hb) (r2.below hb) (r3.below hb) (r4.below hb))
  have HAB := Lib.hid (fun W' (hb : Below W.heap.size W W') => mequal_any a0 a1 a2 a3 b0 b1 b2 b3 xs ys u v NA NB BA BB nn nc bn bc mn mc cn cc W' h1 h2 h3 h4 hm hm2 hm3 hm4 (r1.below hb) (r2.below hb) (r3.below hb) (r4.below hb))
  have hba := (fun W' (hb : Below W.heap.size W W') => mequal_any b0 b1 b2 b3 a0 a1 a2 a3 ys xs v u NB NA BB BA mn mc cn cc nn nc bn bc W' h2 h1 h4 h3 hm2 hm hm4 hm3 (r2.below hb) (r1.below hb) (r4.below hb) (r3.below hb))
  rw [eqR_symm] at hba
  have HBA := Lib.hid hba
  have haa := (fun W' (hb : Below W.heap.size W W') => mequal_any a0 a1 a2 a3 a0 a1 a2 a3 xs xs u u NA NA BA BA nn nc bn bc nn nc bn bc W' h1 h1 h3 h3 hm hm hm3 hm3 (r1.below hb) (r1.below hb) (r3.below hb) (r3.below hb))
  rw [eqR_self] at haa
  have HAA := Lib.hid haa
  have HA := Lib.hid hA
  have HB := Lib.hid hB
  have HB0 := Lib.hid hb0
  have HS0 := Lib.hid hs0
  have HW0 := Lib.hid hW0
  have hsz : (decide ((20 : Int) < (nn : Int)) = true) ∨ (decide ((20 : Int) < (nn : Int)) = false ∧ decide ((20 : Int) < (mn : Int)) = true) ∨ (decide ((20 : Int) < (nn : Int)) = false ∧ decide ((20 : Int) < (mn : Int)) = false ∧ decide ((500 : Int) < (bn : Int)) = true) ∨ (decide ((20 : Int) < (nn : Int)) = false ∧ decide ((20 : Int) < (mn : Int)) = false ∧ decide ((500 : Int) < (bn : Int)) = false ∧ decide ((500 : Int) < (cn : Int)) = true) ∨ (decide ((20 : Int) < (nn : Int)) = false ∧ decide ((20 : Int) < (mn : Int)) = false ∧ decide ((500 : Int) < (bn : Int)) = false ∧ decide ((500 : Int) < (cn : Int)) = false) := by
    cases decide ((20 : Int) < (nn : Int)) <;> cases decide ((20 : Int) < (mn : Int)) <;> cases decide ((500 : Int) < (bn : Int)) <;> cases decide ((500 : Int) < (cn : Int)) <;> simp
  clear hba haa hA hB hb0 hs0 hW0 h1 h2 h3 h4 hm hm2 hm3 hm4 r1 r2 r3 r4
  unfold resV at HRE HAB HBA HAA
  generalize eqR a0 a1 a2 a3 b0 b1 b2 b3 xs ys u v = t at *
  rcases hsz with g0 | ⟨g0, g1⟩ | ⟨g0, g1, g2⟩ | ⟨g0, g1, g2, g3⟩ | ⟨g0, g1, g2, g3⟩
  · go_enter Tryz.func3, Tryz.ntmps3
    go_wp2_with fail
    rw [HW0.out]
    refine (HWK _).mono ?_
    rintro e w1 ⟨rfl, hb1⟩
    go_wp2_with fail
    go_ret
    exact ⟨rfl, HB0.out.trans (hb1.mono HB0.out.size)⟩
  · go_enter Tryz.func3, Tryz.ntmps3
    go_wp2_with fail
    rw [HW0.out]
    refine (HWK _).mono ?_
    rintro e w1 ⟨rfl, hb1⟩
    go_wp2_with fail
    go_ret
    exact ⟨rfl, HB0.out.trans (hb1.mono HB0.out.size)⟩
  · go_enter Tryz.func3, Tryz.ntmps3
    go_wp2_with fail
    rw [HW0.out]
    refine (HWK _).mono ?_
    rintro e w1 ⟨rfl, hb1⟩
    go_wp2_with fail
    go_ret
    exact ⟨rfl, HB0.out.trans (hb1.mono HB0.out.size)⟩
  · go_enter Tryz.func3, Tryz.ntmps3
    go_wp2_with fail
    rw [HW0.out]
    refine (HWK _).mono ?_
    rintro e w1 ⟨rfl, hb1⟩
    go_wp2_with fail
    go_ret
    exact ⟨rfl, HB0.out.trans (hb1.mono HB0.out.size)⟩
  · have step : ∀ w, Below W0.heap.size W0 w → Hid (Below W.heap.size W w) ∧ CellsAt w W.heap.size 6 (cellsO' a0 a1 a2 a3 NA nn nc BA bn bc) ∧ CellsAt w (W.heap.size + 1) 6 (cellsO' b0 b1 b2 b3 NB mn mc BB cn cc) := fun w hb =>
      ⟨HB0.out.trans (hb.mono HB0.out.size), HA.out.below hb (by have := HS0.out; omega), HB.out.below hb (by have := HS0.out; omega)⟩
    have HST := Lib.hid step
    clear step HA HB
    go_enter Tryz.func3, Tryz.ntmps3
    go_wp2_with fail
    rw [HW0.out]
    refine (HRE.out W0 HB0.out).mono ?_
    rintro e w1 ⟨rfl, hb1⟩
    obtain ⟨HC1, cA, cB⟩ := HST.out w1 hb1
    have a_0 : w1.cell? ⟨W.heap.size, 0, none⟩ = some (.int .i64 a0) := cA.1 0 (by omega)
    have a_1 : w1.cell? ⟨W.heap.size, 1, none⟩ = some (.int .i64 a1) := cA.1 1 (by omega)
    have a_2 : w1.cell? ⟨W.heap.size, 2, none⟩ = some (.int .i64 a2) := cA.1 2 (by omega)
    have a_3 : w1.cell? ⟨W.heap.size, 3, none⟩ = some (.int .i64 a3) := cA.1 3 (by omega)
    have a_4 : w1.cell? ⟨W.heap.size, 4, none⟩ = some (.slice NA nn nc) := cA.1 4 (by omega)
    have a_5 : w1.cell? ⟨W.heap.size, 5, none⟩ = some (.slice BA bn bc) := cA.1 5 (by omega)
    have b_0 : w1.cell? ⟨W.heap.size + 1, 0, none⟩ = some (.int .i64 b0) := cB.1 0 (by omega)
    have b_1 : w1.cell? ⟨W.heap.size + 1, 1, none⟩ = some (.int .i64 b1) := cB.1 1 (by omega)
    have b_2 : w1.cell? ⟨W.heap.size + 1, 2, none⟩ = some (.int .i64 b2) := cB.1 2 (by omega)
    have b_3 : w1.cell? ⟨W.heap.size + 1, 3, none⟩ = some (.int .i64 b3) := cB.1 3 (by omega)
    have b_4 : w1.cell? ⟨W.heap.size + 1, 4, none⟩ = some (.slice NB mn mc) := cB.1 4 (by omega)
    have b_5 : w1.cell? ⟨W.heap.size + 1, 5, none⟩ = some (.slice BB cn cc) := cB.1 5 (by omega)
    have HB1 := Lib.hid hb1
    clear cA cB hb1
    go_wp2_with fail
    refine (HAB.out w1 HC1.out).mono ?_
    rintro e w2 ⟨rfl, hb2⟩
    have HB2 := Lib.hid (HB1.out.trans (hb2.mono HB1.out.size))
    obtain ⟨HC2, cA, cB⟩ := HST.out w2 HB2.out
    clear a_0 a_1 a_2 a_3 a_4 a_5 b_0 b_1 b_2 b_3 b_4 b_5
    have a_0 : w2.cell? ⟨W.heap.size, 0, none⟩ = some (.int .i64 a0) := cA.1 0 (by omega)
    have a_1 : w2.cell? ⟨W.heap.size, 1, none⟩ = some (.int .i64 a1) := cA.1 1 (by omega)
    have a_2 : w2.cell? ⟨W.heap.size, 2, none⟩ = some (.int .i64 a2) := cA.1 2 (by omega)
    have a_3 : w2.cell? ⟨W.heap.size, 3, none⟩ = some (.int .i64 a3) := cA.1 3 (by omega)
    have a_4 : w2.cell? ⟨W.heap.size, 4, none⟩ = some (.slice NA nn nc) := cA.1 4 (by omega)
    have a_5 : w2.cell? ⟨W.heap.size, 5, none⟩ = some (.slice BA bn bc) := cA.1 5 (by omega)
    have b_0 : w2.cell? ⟨W.heap.size + 1, 0, none⟩ = some (.int .i64 b0) := cB.1 0 (by omega)
    have b_1 : w2.cell? ⟨W.heap.size + 1, 1, none⟩ = some (.int .i64 b1) := cB.1 1 (by omega)
    have b_2 : w2.cell? ⟨W.heap.size + 1, 2, none⟩ = some (.int .i64 b2) := cB.1 2 (by omega)
    have b_3 : w2.cell? ⟨W.heap.size + 1, 3, none⟩ = some (.int .i64 b3) := cB.1 3 (by omega)
    have b_4 : w2.cell? ⟨W.heap.size + 1, 4, none⟩ = some (.slice NB mn mc) := cB.1 4 (by omega)
    have b_5 : w2.cell? ⟨W.heap.size + 1, 5, none⟩ = some (.slice BB cn cc) := cB.1 5 (by omega)
    have ht : (t == t) = true := by cases t <;> rfl
    clear cA cB hb2 HB1
    go_wp2_with fail
    refine (HBA.out w2 HC2.out).mono ?_
    rintro e w3 ⟨rfl, hb3⟩
    have HB3 := Lib.hid (HB2.out.trans (hb3.mono HB2.out.size))
    obtain ⟨HC3, cA, cB⟩ := HST.out w3 HB3.out
    clear a_0 a_1 a_2 a_3 a_4 a_5 b_0 b_1 b_2 b_3 b_4 b_5
    have a_0 : w3.cell? ⟨W.heap.size, 0, none⟩ = some (.int .i64 a0) := cA.1 0 (by omega)
    have a_1 : w3.cell? ⟨W.heap.size, 1, none⟩ = some (.int .i64 a1) := cA.1 1 (by omega)
    have a_2 : w3.cell? ⟨W.heap.size, 2, none⟩ = some (.int .i64 a2) := cA.1 2 (by omega)
    have a_3 : w3.cell? ⟨W.heap.size, 3, none⟩ = some (.int .i64 a3) := cA.1 3 (by omega)
    have a_4 : w3.cell? ⟨W.heap.size, 4, none⟩ = some (.slice NA nn nc) := cA.1 4 (by omega)
    have a_5 : w3.cell? ⟨W.heap.size, 5, none⟩ = some (.slice BA bn bc) := cA.1 5 (by omega)
    clear cA cB hb3 HB2
    go_wp2_with fail
    refine (HAA.out w3 HC3.out).mono ?_
    rintro e w4 ⟨rfl, hb4⟩
    have HB4 := Lib.hid (HC3.out.trans (hb4.mono HC3.out.size))
    clear a_0 a_1 a_2 a_3 a_4 a_5 hb4
    go_wp2_with fail
    refine (HWK _).mono ?_
    rintro e w5 ⟨rfl, hb5⟩
    go_wp2_with fail
    go_ret
    exact ⟨rfl, HB4.out.trans (hb5.mono HB4.out.size)⟩
end Go.Proofs.YtibpagmpdgflmaaGreatDoor

namespace Go.Proofs.YtibpagmpdgflmaaGreatDoor
open Go.RowKit Go.Maps
attribute [local go_sem] Oper.semAt_some

theorem num11c_any (c : Int) (W : World) : Calls Tryz.prog 14 #[.int .i64 c] W fun e W' => e = .returned (.int .i64 c) ∧ W' = W := by
  go_enter Tryz.func14, Tryz.ntmps14
  go_wp2
  go_ret
  exact ⟨rfl, rfl⟩
set_option maxRecDepth 200000 in
set_option maxHeartbeats 8000000 in
theorem modelChecks_low (HWK : Works) (k : Int) (p d : ByteArray) (a n : Int) (A : Option Addr) (m c : Nat) (bs : List UInt8) (W : World) (hk : -9223372036854775808 ≤ k ∧ k < 9223372036854775808) (ha : a < 9223372036854775808) (hn : n < 9223372036854775808)
    (hl : bs.length = m) (hm : m ≤ maxLen) (hrow : RowAt W A (bs.map encB)) (hz : (⟨k, p, d, a, n, A, m, c, bs⟩ : OpP).small = true) (hkk : k < 1) :
    Calls Tryz.prog 4 #[.agg #[.int .i64 k, .string p, .string d, .int .i64 a, .int .i64 n, .slice A m c]] W fun e W' => e = .returned (.bool true) ∧ Below W.heap.size W W' := by
  obtain ⟨hp, hd, hm5⟩ : p.size ≤ 200 ∧ d.size ≤ 200 ∧ m ≤ 500 := of_decide_eq_true hz
  obtain ⟨W0, hW0⟩ : ∃ W0, (W.alloc (.cells #[.int .i64 k, .string p, .string d, .int .i64 a, .int .i64 n, .slice A m c] 32)).alloc (.cells #[.int .i64 k, .string p, .string d, .int .i64 a, .int .i64 n, .slice A m c] 32) = W0 := ⟨_, rfl⟩
  have hb0 : Below W.heap.size W W0 := by rw [← hW0]; exact ((Below.refl _ _).alloc (Nat.le_refl _) _).alloc (by simp) _
  have hs0 : W0.heap.size = W.heap.size + 2 := by rw [← hW0]; simp
  have hOP : CellsAt W0 W.heap.size 6 (cellsOp k p d a n A m c) := by
    rw [← hW0]
    exact (cellsAt_new W _ _ 6 _ fun i hi => match i, hi with | 0, _ => rfl | 1, _ => rfl | 2, _ => rfl | 3, _ => rfl | 4, _ => rfl | 5, _ => rfl).below (m := W.heap.size + 1) ((Below.refl _ _).alloc (by simp) _) (by omega)
  have hR2 : RowAt W0 (some ⟨W.heap.size + 1, 0, none⟩) ([(⟨k, p, d, a, n, A, m, c, bs⟩ : OpP)].flatMap OpP.cells) := by
    rw [← hW0]
    have := rowAt_new (W.alloc (.cells #[.int .i64 k, .string p, .string d, .int .i64 a, .int .i64 n, .slice A m c] 32)) [.int .i64 k, .string p, .string d, .int .i64 a, .int .i64 n, .slice A m c] 32
    rw [show (W.alloc (.cells #[.int .i64 k, .string p, .string d, .int .i64 a, .int .i64 n, .slice A m c] 32)).heap.size = W.heap.size + 1 from by simp] at this
    exact this
  have hfw := few11_any [⟨k, p, d, a, n, A, m, c, bs⟩] _ 1 1 1 W0 rfl (by unfold maxLen; omega) hR2
  rw [show fewB [(⟨k, p, d, a, n, A, m, c, bs⟩ : OpP)] 1 = true by rw [fewB, List.all_cons, hz]; rfl] at hfw
  have hck := fun W' (hb : Below W0.heap.size W0 W') => mcheck_any k p d a n A m c bs W' hk (by omega) (by omega) hl hm ((hrow.below hb0).below (hb)) ha hn
  have hrc := fun W' (hb : Below W0.heap.size W0 W') => check11_any k p d a n A m c W' (by omega) (by omega)
  have hop : ∀ w, Below W0.heap.size W0 w → w.cell? ⟨W.heap.size, 0, none⟩ = some (.int .i64 k) ∧ w.cell? ⟨W.heap.size, 1, none⟩ = some (.string p) ∧ w.cell? ⟨W.heap.size, 2, none⟩ = some (.string d) ∧ w.cell? ⟨W.heap.size, 3, none⟩ = some (.int .i64 a) ∧ w.cell? ⟨W.heap.size, 4, none⟩ = some (.int .i64 n) ∧ w.cell? ⟨W.heap.size, 5, none⟩ = some (.slice A m c) := fun w hb => by
    have h := hOP.below hb (by omega)
    exact ⟨h.1 0 (by omega), h.1 1 (by omega), h.1 2 (by omega), h.1 3 (by omega), h.1 4 (by omega), h.1 5 (by omega)⟩
  have has := asks_any k
  rw [decide_eq_false (show ¬ (1 ≤ k ∧ k ≤ 3) by omega)] at has
  generalize checkN k (bytesOf p) (bytesOf d) a n m = z at *
  unfold opV at hck hrc
  have HFW := Lib.hid hfw
  have HCK := Lib.hid hck
  have HRC := Lib.hid hrc
  have HOP := Lib.hid hop
  have HAS := Lib.hid has
  have HB0 := Lib.hid hb0
  have HW0 := Lib.hid hW0
  have HS0 := Lib.hid hs0
  have hk1 : decide (1 ≤ k) = false := decide_eq_false (by omega)
  have hk3 : decide (k ≤ 3) = true := decide_eq_true (by omega)
  clear hfw hck hrc hop has hb0 hW0 hs0 hOP hR2 hz hl hm hrow hp hd hm5 hkk
  go_enter Tryz.func4, Tryz.ntmps4
  go_wp2_with fail
  rw [HW0.out]
  refine HFW.out.mono ?_
  rintro e wb ⟨rfl, rfl⟩
  have c0 : wb.cell? ⟨W.heap.size, 0, none⟩ = some (.int .i64 k) := (HOP.out wb (Below.refl _ _)).1
  go_wp2_with fail
  have hmx : Tryz.prog.follows .mixedOrders = true := by kernel_rfl
  rename_i K hK
  have HK := Lib.hid hK
  clear hK c0
  refine (wpIn_wide (n := 10)).1 ?_
  refine whichever_region (fun w' => Below wb.heap.size wb w') [] hmx ?_
  have hS : Below wb.heap.size wb wb.drew := (Below.refl _ _).drew
  generalize wb.drew = w1 at *
  refine whichever_take 0 (.agg #[.int .i64 k, .string p, .string d, .int .i64 a, .int .i64 n, .slice A m c]) [] rfl (by as_aux_lemma => kernel_rfl) (fun _ _ _ h => h) hS (by as_aux_lemma => kernel_rfl) (fun w hw => ?_) ?_
  · as_aux_lemma =>
    obtain ⟨c0, c1, c2, c3, c4, c5⟩ := HOP.out w hw
    constructor <;> go_simp
  refine whichever_take 3 (.agg #[.int .i64 k, .string p, .string d, .int .i64 a, .int .i64 n, .slice A m c]) [] rfl (by as_aux_lemma => kernel_rfl) (fun _ _ _ h => h) hS (by as_aux_lemma => kernel_rfl) (fun w hw => ?_) ?_
  · as_aux_lemma =>
    obtain ⟨c0, c1, c2, c3, c4, c5⟩ := HOP.out w hw
    constructor <;> go_simp
  refine whichever_next 1 rfl (by as_aux_lemma => kernel_rfl) (by as_aux_lemma => kernel_rfl) ?_
  go_simp
  refine ⟨trivial, callsIn_wide.2 ((HCK.out _ hS).mono ?_)⟩
  rintro e w2 ⟨rfl, hb2⟩
  simp only
  have hS : Below wb.heap.size wb w2 := hS.trans (hb2.mono hS.size)
  refine ⟨hS, ?_⟩
  clear hb2
  refine whichever_next 2 rfl (by as_aux_lemma => kernel_rfl) (by as_aux_lemma => kernel_rfl) ?_
  go_simp
  refine ⟨trivial, callsIn_wide.2 ((num11c_any _ _).mono ?_)⟩
  rintro e w9 ⟨rfl, rfl⟩
  simp only
  refine ⟨hS, ?_⟩
  refine whichever_next 4 rfl (by as_aux_lemma => kernel_rfl) (by as_aux_lemma => kernel_rfl) ?_
  go_simp
  refine ⟨trivial, callsIn_wide.2 ((HRC.out _ hS).mono ?_)⟩
  rintro e w3 ⟨rfl, hb3⟩
  simp only
  have hS : Below wb.heap.size wb w3 := hS.trans (hb3.mono hS.size)
  refine ⟨hS, ?_⟩
  clear hb3
  refine whichever_take 5 (.bool true) [] rfl (by as_aux_lemma => kernel_rfl) (fun _ _ _ h => h) hS (by as_aux_lemma => kernel_rfl) (fun w hw => ?_) ?_
  · as_aux_lemma =>
    constructor <;> go_simp
  refine whichever_take 6 (.bool true) [] rfl (by as_aux_lemma => kernel_rfl) (fun _ _ _ h => h) hS (by as_aux_lemma => kernel_rfl) (fun w hw => ?_) ?_
  · as_aux_lemma =>
    constructor <;> go_simp
  refine whichever_take 7 (.pointer (some ⟨W.heap.size, 0, none⟩)) [] rfl (by as_aux_lemma => kernel_rfl) (fun _ _ _ h => h) hS (by as_aux_lemma => kernel_rfl) (fun w hw => ?_) ?_
  · as_aux_lemma =>
    constructor <;> go_simp
  refine whichever_take 8 (.int .i64 k) [] rfl (by as_aux_lemma => kernel_rfl) (fun _ _ _ h => h) hS (by as_aux_lemma => kernel_rfl) (fun w hw => ?_) ?_
  · as_aux_lemma =>
    obtain ⟨c0, c1, c2, c3, c4, c5⟩ := HOP.out w hw
    constructor <;> go_simp
  refine whichever_take 10 (.int .i64 k) [] rfl (by as_aux_lemma => kernel_rfl) (fun _ _ _ h => h) hS (by as_aux_lemma => kernel_rfl) (fun w hw => ?_) ?_
  · as_aux_lemma =>
    constructor <;> go_simp
  refine whichever_take 11 (.bool false) [] rfl (by as_aux_lemma => kernel_rfl) (fun _ _ _ h => h) hS (by as_aux_lemma => kernel_rfl) (fun w hw => ?_) ?_
  · as_aux_lemma =>
    constructor <;> go_simp
  refine whichever_next 9 rfl (by as_aux_lemma => kernel_rfl) (by as_aux_lemma => kernel_rfl) ?_
  go_simp
  refine ⟨trivial, callsIn_wide.2 ((HAS.out _).mono ?_)⟩
  rintro e w9 ⟨rfl, rfl⟩
  simp only
  refine ⟨hS, ?_⟩
  refine whichever_take 12 (.bool false) [] rfl (by as_aux_lemma => kernel_rfl) (fun _ _ _ h => h) hS (by as_aux_lemma => kernel_rfl) (fun w hw => ?_) ?_
  · as_aux_lemma =>
    constructor <;> go_simp
  refine whichever_pass 13 [] rfl (by as_aux_lemma => kernel_rfl) (fun _ _ _ h => h) hS (by as_aux_lemma => kernel_rfl) (fun w => ?_) ?_
  · as_aux_lemma =>
    go_simp
  refine whichever_pass 14 [] rfl (by as_aux_lemma => kernel_rfl) (fun _ _ _ h => h) hS (by as_aux_lemma => kernel_rfl) (fun w => ?_) ?_
  · as_aux_lemma =>
    go_simp
  refine whichever_take 15 (.bool false) [] rfl (by as_aux_lemma => kernel_rfl) (fun _ _ _ h => h) hS (by as_aux_lemma => kernel_rfl) (fun w hw => ?_) ?_
  · as_aux_lemma =>
    constructor <;> go_simp
  refine whichever_take 16 (.bool true) [] rfl (by as_aux_lemma => kernel_rfl) (fun _ _ _ h => h) hS (by as_aux_lemma => kernel_rfl) (fun w hw => ?_) ?_
  · as_aux_lemma =>
    constructor <;> go_simp
  refine whichever_take 17 (.bool true) [] rfl (by as_aux_lemma => kernel_rfl) (fun _ _ _ h => h) hS (by as_aux_lemma => kernel_rfl) (fun w hw => ?_) ?_
  · as_aux_lemma =>
    constructor <;> go_simp
  refine whichever_take 18 (.bool true) [] rfl (by as_aux_lemma => kernel_rfl) (fun _ _ _ h => h) hS (by as_aux_lemma => kernel_rfl) (fun w hw => ?_) ?_
  · as_aux_lemma =>
    constructor <;> go_simp
  refine whichever_next 19 rfl (by as_aux_lemma => kernel_rfl) (by as_aux_lemma => kernel_rfl) ?_
  go_simp
  refine ⟨trivial, callsIn_wide.2 ((HWK _).mono ?_)⟩
  rintro e w4 ⟨rfl, hb4⟩
  simp only
  have hS : Below wb.heap.size wb w4 := hS.trans (hb4.mono hS.size)
  refine ⟨hS, ?_⟩
  clear hb4
  refine whichever_take 20 (.bool true) [] rfl (by as_aux_lemma => kernel_rfl) (fun _ _ _ h => h) hS (by as_aux_lemma => kernel_rfl) (fun w hw => ?_) ?_
  · as_aux_lemma =>
    constructor <;> go_simp
  refine whichever_take 21 (.bool true) [] rfl (by as_aux_lemma => kernel_rfl) (fun _ _ _ h => h) hS (by as_aux_lemma => kernel_rfl) (fun w hw => ?_) ?_
  · as_aux_lemma =>
    constructor <;> go_simp
  refine whichever_end (by kernel_rfl) ?_
  refine HK.out _ _ ?_
  go_wp2_with fail
  go_ret
  exact ⟨rfl, HB0.out.trans (hS.mono HB0.out.size)⟩
set_option maxRecDepth 200000 in
set_option maxHeartbeats 8000000 in
theorem modelChecks_mid (HWK : Works) (k : Int) (p d : ByteArray) (a n : Int) (A : Option Addr) (m c : Nat) (bs : List UInt8) (W : World) (hk : -9223372036854775808 ≤ k ∧ k < 9223372036854775808) (ha : a < 9223372036854775808) (hn : n < 9223372036854775808)
    (hl : bs.length = m) (hm : m ≤ maxLen) (hrow : RowAt W A (bs.map encB)) (hz : (⟨k, p, d, a, n, A, m, c, bs⟩ : OpP).small = true) (hkk : 1 ≤ k ∧ k ≤ 3) :
    Calls Tryz.prog 4 #[.agg #[.int .i64 k, .string p, .string d, .int .i64 a, .int .i64 n, .slice A m c]] W fun e W' => e = .returned (.bool true) ∧ Below W.heap.size W W' := by
  obtain ⟨hp, hd, hm5⟩ : p.size ≤ 200 ∧ d.size ≤ 200 ∧ m ≤ 500 := of_decide_eq_true hz
  obtain ⟨W0, hW0⟩ : ∃ W0, (W.alloc (.cells #[.int .i64 k, .string p, .string d, .int .i64 a, .int .i64 n, .slice A m c] 32)).alloc (.cells #[.int .i64 k, .string p, .string d, .int .i64 a, .int .i64 n, .slice A m c] 32) = W0 := ⟨_, rfl⟩
  have hb0 : Below W.heap.size W W0 := by rw [← hW0]; exact ((Below.refl _ _).alloc (Nat.le_refl _) _).alloc (by simp) _
  have hs0 : W0.heap.size = W.heap.size + 2 := by rw [← hW0]; simp
  have hOP : CellsAt W0 W.heap.size 6 (cellsOp k p d a n A m c) := by
    rw [← hW0]
    exact (cellsAt_new W _ _ 6 _ fun i hi => match i, hi with | 0, _ => rfl | 1, _ => rfl | 2, _ => rfl | 3, _ => rfl | 4, _ => rfl | 5, _ => rfl).below (m := W.heap.size + 1) ((Below.refl _ _).alloc (by simp) _) (by omega)
  have hR2 : RowAt W0 (some ⟨W.heap.size + 1, 0, none⟩) ([(⟨k, p, d, a, n, A, m, c, bs⟩ : OpP)].flatMap OpP.cells) := by
    rw [← hW0]
    have := rowAt_new (W.alloc (.cells #[.int .i64 k, .string p, .string d, .int .i64 a, .int .i64 n, .slice A m c] 32)) [.int .i64 k, .string p, .string d, .int .i64 a, .int .i64 n, .slice A m c] 32
    rw [show (W.alloc (.cells #[.int .i64 k, .string p, .string d, .int .i64 a, .int .i64 n, .slice A m c] 32)).heap.size = W.heap.size + 1 from by simp] at this
    exact this
  have hfw := few11_any [⟨k, p, d, a, n, A, m, c, bs⟩] _ 1 1 1 W0 rfl (by unfold maxLen; omega) hR2
  rw [show fewB [(⟨k, p, d, a, n, A, m, c, bs⟩ : OpP)] 1 = true by rw [fewB, List.all_cons, hz]; rfl] at hfw
  have hck := fun W' (hb : Below W0.heap.size W0 W') => mcheck_any k p d a n A m c bs W' hk (by omega) (by omega) hl hm ((hrow.below hb0).below (hb)) ha hn
  have hrc := fun W' (hb : Below W0.heap.size W0 W') => check11_any k p d a n A m c W' (by omega) (by omega)
  have hop : ∀ w, Below W0.heap.size W0 w → w.cell? ⟨W.heap.size, 0, none⟩ = some (.int .i64 k) ∧ w.cell? ⟨W.heap.size, 1, none⟩ = some (.string p) ∧ w.cell? ⟨W.heap.size, 2, none⟩ = some (.string d) ∧ w.cell? ⟨W.heap.size, 3, none⟩ = some (.int .i64 a) ∧ w.cell? ⟨W.heap.size, 4, none⟩ = some (.int .i64 n) ∧ w.cell? ⟨W.heap.size, 5, none⟩ = some (.slice A m c) := fun w hb => by
    have h := hOP.below hb (by omega)
    exact ⟨h.1 0 (by omega), h.1 1 (by omega), h.1 2 (by omega), h.1 3 (by omega), h.1 4 (by omega), h.1 5 (by omega)⟩
  have has := asks_any k
  rw [decide_eq_true hkk] at has
  generalize checkN k (bytesOf p) (bytesOf d) a n m = z at *
  unfold opV at hck hrc
  have HFW := Lib.hid hfw
  have HCK := Lib.hid hck
  have HRC := Lib.hid hrc
  have HOP := Lib.hid hop
  have HAS := Lib.hid has
  have HB0 := Lib.hid hb0
  have HW0 := Lib.hid hW0
  have HS0 := Lib.hid hs0
  have hk1 : decide (1 ≤ k) = true := decide_eq_true (by omega)
  have hk3 : decide (k ≤ 3) = true := decide_eq_true (by omega)
  clear hfw hck hrc hop has hb0 hW0 hs0 hOP hR2 hz hl hm hrow hp hd hm5 hkk
  go_enter Tryz.func4, Tryz.ntmps4
  go_wp2_with fail
  rw [HW0.out]
  refine HFW.out.mono ?_
  rintro e wb ⟨rfl, rfl⟩
  have c0 : wb.cell? ⟨W.heap.size, 0, none⟩ = some (.int .i64 k) := (HOP.out wb (Below.refl _ _)).1
  go_wp2_with fail
  have hmx : Tryz.prog.follows .mixedOrders = true := by kernel_rfl
  rename_i K hK
  have HK := Lib.hid hK
  clear hK c0
  refine (wpIn_wide (n := 10)).1 ?_
  refine whichever_region (fun w' => Below wb.heap.size wb w') [] hmx ?_
  have hS : Below wb.heap.size wb wb.drew := (Below.refl _ _).drew
  generalize wb.drew = w1 at *
  refine whichever_take 0 (.agg #[.int .i64 k, .string p, .string d, .int .i64 a, .int .i64 n, .slice A m c]) [] rfl (by as_aux_lemma => kernel_rfl) (fun _ _ _ h => h) hS (by as_aux_lemma => kernel_rfl) (fun w hw => ?_) ?_
  · as_aux_lemma =>
    obtain ⟨c0, c1, c2, c3, c4, c5⟩ := HOP.out w hw
    constructor <;> go_simp
  refine whichever_take 3 (.agg #[.int .i64 k, .string p, .string d, .int .i64 a, .int .i64 n, .slice A m c]) [] rfl (by as_aux_lemma => kernel_rfl) (fun _ _ _ h => h) hS (by as_aux_lemma => kernel_rfl) (fun w hw => ?_) ?_
  · as_aux_lemma =>
    obtain ⟨c0, c1, c2, c3, c4, c5⟩ := HOP.out w hw
    constructor <;> go_simp
  refine whichever_next 1 rfl (by as_aux_lemma => kernel_rfl) (by as_aux_lemma => kernel_rfl) ?_
  go_simp
  refine ⟨trivial, callsIn_wide.2 ((HCK.out _ hS).mono ?_)⟩
  rintro e w2 ⟨rfl, hb2⟩
  simp only
  have hS : Below wb.heap.size wb w2 := hS.trans (hb2.mono hS.size)
  refine ⟨hS, ?_⟩
  clear hb2
  refine whichever_next 2 rfl (by as_aux_lemma => kernel_rfl) (by as_aux_lemma => kernel_rfl) ?_
  go_simp
  refine ⟨trivial, callsIn_wide.2 ((num11c_any _ _).mono ?_)⟩
  rintro e w9 ⟨rfl, rfl⟩
  simp only
  refine ⟨hS, ?_⟩
  refine whichever_next 4 rfl (by as_aux_lemma => kernel_rfl) (by as_aux_lemma => kernel_rfl) ?_
  go_simp
  refine ⟨trivial, callsIn_wide.2 ((HRC.out _ hS).mono ?_)⟩
  rintro e w3 ⟨rfl, hb3⟩
  simp only
  have hS : Below wb.heap.size wb w3 := hS.trans (hb3.mono hS.size)
  refine ⟨hS, ?_⟩
  clear hb3
  refine whichever_take 5 (.bool true) [] rfl (by as_aux_lemma => kernel_rfl) (fun _ _ _ h => h) hS (by as_aux_lemma => kernel_rfl) (fun w hw => ?_) ?_
  · as_aux_lemma =>
    constructor <;> go_simp
  refine whichever_take 6 (.bool true) [] rfl (by as_aux_lemma => kernel_rfl) (fun _ _ _ h => h) hS (by as_aux_lemma => kernel_rfl) (fun w hw => ?_) ?_
  · as_aux_lemma =>
    constructor <;> go_simp
  refine whichever_take 7 (.pointer (some ⟨W.heap.size, 0, none⟩)) [] rfl (by as_aux_lemma => kernel_rfl) (fun _ _ _ h => h) hS (by as_aux_lemma => kernel_rfl) (fun w hw => ?_) ?_
  · as_aux_lemma =>
    constructor <;> go_simp
  refine whichever_take 8 (.int .i64 k) [] rfl (by as_aux_lemma => kernel_rfl) (fun _ _ _ h => h) hS (by as_aux_lemma => kernel_rfl) (fun w hw => ?_) ?_
  · as_aux_lemma =>
    obtain ⟨c0, c1, c2, c3, c4, c5⟩ := HOP.out w hw
    constructor <;> go_simp
  refine whichever_take 10 (.int .i64 k) [] rfl (by as_aux_lemma => kernel_rfl) (fun _ _ _ h => h) hS (by as_aux_lemma => kernel_rfl) (fun w hw => ?_) ?_
  · as_aux_lemma =>
    constructor <;> go_simp
  refine whichever_take 11 (.bool true) [] rfl (by as_aux_lemma => kernel_rfl) (fun _ _ _ h => h) hS (by as_aux_lemma => kernel_rfl) (fun w hw => ?_) ?_
  · as_aux_lemma =>
    constructor <;> go_simp
  refine whichever_next 9 rfl (by as_aux_lemma => kernel_rfl) (by as_aux_lemma => kernel_rfl) ?_
  go_simp
  refine ⟨trivial, callsIn_wide.2 ((HAS.out _).mono ?_)⟩
  rintro e w9 ⟨rfl, rfl⟩
  simp only
  refine ⟨hS, ?_⟩
  refine whichever_take 12 (.bool true) [] rfl (by as_aux_lemma => kernel_rfl) (fun _ _ _ h => h) hS (by as_aux_lemma => kernel_rfl) (fun w hw => ?_) ?_
  · as_aux_lemma =>
    constructor <;> go_simp
  refine whichever_take 13 (.int .i64 k) [] rfl (by as_aux_lemma => kernel_rfl) (fun _ _ _ h => h) hS (by as_aux_lemma => kernel_rfl) (fun w hw => ?_) ?_
  · as_aux_lemma =>
    constructor <;> go_simp
  refine whichever_take 14 (.bool true) [] rfl (by as_aux_lemma => kernel_rfl) (fun _ _ _ h => h) hS (by as_aux_lemma => kernel_rfl) (fun w hw => ?_) ?_
  · as_aux_lemma =>
    constructor <;> go_simp
  refine whichever_take 15 (.bool true) [] rfl (by as_aux_lemma => kernel_rfl) (fun _ _ _ h => h) hS (by as_aux_lemma => kernel_rfl) (fun w hw => ?_) ?_
  · as_aux_lemma =>
    constructor <;> go_simp
  refine whichever_take 16 (.bool true) [] rfl (by as_aux_lemma => kernel_rfl) (fun _ _ _ h => h) hS (by as_aux_lemma => kernel_rfl) (fun w hw => ?_) ?_
  · as_aux_lemma =>
    constructor <;> go_simp
  refine whichever_take 17 (.bool true) [] rfl (by as_aux_lemma => kernel_rfl) (fun _ _ _ h => h) hS (by as_aux_lemma => kernel_rfl) (fun w hw => ?_) ?_
  · as_aux_lemma =>
    constructor <;> go_simp
  refine whichever_take 18 (.bool true) [] rfl (by as_aux_lemma => kernel_rfl) (fun _ _ _ h => h) hS (by as_aux_lemma => kernel_rfl) (fun w hw => ?_) ?_
  · as_aux_lemma =>
    constructor <;> go_simp
  refine whichever_next 19 rfl (by as_aux_lemma => kernel_rfl) (by as_aux_lemma => kernel_rfl) ?_
  go_simp
  refine ⟨trivial, callsIn_wide.2 ((HWK _).mono ?_)⟩
  rintro e w4 ⟨rfl, hb4⟩
  simp only
  have hS : Below wb.heap.size wb w4 := hS.trans (hb4.mono hS.size)
  refine ⟨hS, ?_⟩
  clear hb4
  refine whichever_take 20 (.bool true) [] rfl (by as_aux_lemma => kernel_rfl) (fun _ _ _ h => h) hS (by as_aux_lemma => kernel_rfl) (fun w hw => ?_) ?_
  · as_aux_lemma =>
    constructor <;> go_simp
  refine whichever_take 21 (.bool true) [] rfl (by as_aux_lemma => kernel_rfl) (fun _ _ _ h => h) hS (by as_aux_lemma => kernel_rfl) (fun w hw => ?_) ?_
  · as_aux_lemma =>
    constructor <;> go_simp
  refine whichever_end (by kernel_rfl) ?_
  refine HK.out _ _ ?_
  go_wp2_with fail
  go_ret
  exact ⟨rfl, HB0.out.trans (hS.mono HB0.out.size)⟩
set_option maxRecDepth 200000 in
set_option maxHeartbeats 8000000 in
theorem modelChecks_high (HWK : Works) (k : Int) (p d : ByteArray) (a n : Int) (A : Option Addr) (m c : Nat) (bs : List UInt8) (W : World) (hk : -9223372036854775808 ≤ k ∧ k < 9223372036854775808) (ha : a < 9223372036854775808) (hn : n < 9223372036854775808)
    (hl : bs.length = m) (hm : m ≤ maxLen) (hrow : RowAt W A (bs.map encB)) (hz : (⟨k, p, d, a, n, A, m, c, bs⟩ : OpP).small = true) (hkk : 3 < k) :
    Calls Tryz.prog 4 #[.agg #[.int .i64 k, .string p, .string d, .int .i64 a, .int .i64 n, .slice A m c]] W fun e W' => e = .returned (.bool true) ∧ Below W.heap.size W W' := by
  obtain ⟨hp, hd, hm5⟩ : p.size ≤ 200 ∧ d.size ≤ 200 ∧ m ≤ 500 := of_decide_eq_true hz
  obtain ⟨W0, hW0⟩ : ∃ W0, (W.alloc (.cells #[.int .i64 k, .string p, .string d, .int .i64 a, .int .i64 n, .slice A m c] 32)).alloc (.cells #[.int .i64 k, .string p, .string d, .int .i64 a, .int .i64 n, .slice A m c] 32) = W0 := ⟨_, rfl⟩
  have hb0 : Below W.heap.size W W0 := by rw [← hW0]; exact ((Below.refl _ _).alloc (Nat.le_refl _) _).alloc (by simp) _
  have hs0 : W0.heap.size = W.heap.size + 2 := by rw [← hW0]; simp
  have hOP : CellsAt W0 W.heap.size 6 (cellsOp k p d a n A m c) := by
    rw [← hW0]
    exact (cellsAt_new W _ _ 6 _ fun i hi => match i, hi with | 0, _ => rfl | 1, _ => rfl | 2, _ => rfl | 3, _ => rfl | 4, _ => rfl | 5, _ => rfl).below (m := W.heap.size + 1) ((Below.refl _ _).alloc (by simp) _) (by omega)
  have hR2 : RowAt W0 (some ⟨W.heap.size + 1, 0, none⟩) ([(⟨k, p, d, a, n, A, m, c, bs⟩ : OpP)].flatMap OpP.cells) := by
    rw [← hW0]
    have := rowAt_new (W.alloc (.cells #[.int .i64 k, .string p, .string d, .int .i64 a, .int .i64 n, .slice A m c] 32)) [.int .i64 k, .string p, .string d, .int .i64 a, .int .i64 n, .slice A m c] 32
    rw [show (W.alloc (.cells #[.int .i64 k, .string p, .string d, .int .i64 a, .int .i64 n, .slice A m c] 32)).heap.size = W.heap.size + 1 from by simp] at this
    exact this
  have hfw := few11_any [⟨k, p, d, a, n, A, m, c, bs⟩] _ 1 1 1 W0 rfl (by unfold maxLen; omega) hR2
  rw [show fewB [(⟨k, p, d, a, n, A, m, c, bs⟩ : OpP)] 1 = true by rw [fewB, List.all_cons, hz]; rfl] at hfw
  have hck := fun W' (hb : Below W0.heap.size W0 W') => mcheck_any k p d a n A m c bs W' hk (by omega) (by omega) hl hm ((hrow.below hb0).below (hb)) ha hn
  have hrc := fun W' (hb : Below W0.heap.size W0 W') => check11_any k p d a n A m c W' (by omega) (by omega)
  have hop : ∀ w, Below W0.heap.size W0 w → w.cell? ⟨W.heap.size, 0, none⟩ = some (.int .i64 k) ∧ w.cell? ⟨W.heap.size, 1, none⟩ = some (.string p) ∧ w.cell? ⟨W.heap.size, 2, none⟩ = some (.string d) ∧ w.cell? ⟨W.heap.size, 3, none⟩ = some (.int .i64 a) ∧ w.cell? ⟨W.heap.size, 4, none⟩ = some (.int .i64 n) ∧ w.cell? ⟨W.heap.size, 5, none⟩ = some (.slice A m c) := fun w hb => by
    have h := hOP.below hb (by omega)
    exact ⟨h.1 0 (by omega), h.1 1 (by omega), h.1 2 (by omega), h.1 3 (by omega), h.1 4 (by omega), h.1 5 (by omega)⟩
  have has := asks_any k
  rw [decide_eq_false (show ¬ (1 ≤ k ∧ k ≤ 3) by omega)] at has
  generalize checkN k (bytesOf p) (bytesOf d) a n m = z at *
  unfold opV at hck hrc
  have HFW := Lib.hid hfw
  have HCK := Lib.hid hck
  have HRC := Lib.hid hrc
  have HOP := Lib.hid hop
  have HAS := Lib.hid has
  have HB0 := Lib.hid hb0
  have HW0 := Lib.hid hW0
  have HS0 := Lib.hid hs0
  have hk1 : decide (1 ≤ k) = true := decide_eq_true (by omega)
  have hk3 : decide (k ≤ 3) = false := decide_eq_false (by omega)
  clear hfw hck hrc hop has hb0 hW0 hs0 hOP hR2 hz hl hm hrow hp hd hm5 hkk
  go_enter Tryz.func4, Tryz.ntmps4
  go_wp2_with fail
  rw [HW0.out]
  refine HFW.out.mono ?_
  rintro e wb ⟨rfl, rfl⟩
  have c0 : wb.cell? ⟨W.heap.size, 0, none⟩ = some (.int .i64 k) := (HOP.out wb (Below.refl _ _)).1
  go_wp2_with fail
  have hmx : Tryz.prog.follows .mixedOrders = true := by kernel_rfl
  rename_i K hK
  have HK := Lib.hid hK
  clear hK c0
  refine (wpIn_wide (n := 10)).1 ?_
  refine whichever_region (fun w' => Below wb.heap.size wb w') [] hmx ?_
  have hS : Below wb.heap.size wb wb.drew := (Below.refl _ _).drew
  generalize wb.drew = w1 at *
  refine whichever_take 0 (.agg #[.int .i64 k, .string p, .string d, .int .i64 a, .int .i64 n, .slice A m c]) [] rfl (by as_aux_lemma => kernel_rfl) (fun _ _ _ h => h) hS (by as_aux_lemma => kernel_rfl) (fun w hw => ?_) ?_
  · as_aux_lemma =>
    obtain ⟨c0, c1, c2, c3, c4, c5⟩ := HOP.out w hw
    constructor <;> go_simp
  refine whichever_take 3 (.agg #[.int .i64 k, .string p, .string d, .int .i64 a, .int .i64 n, .slice A m c]) [] rfl (by as_aux_lemma => kernel_rfl) (fun _ _ _ h => h) hS (by as_aux_lemma => kernel_rfl) (fun w hw => ?_) ?_
  · as_aux_lemma =>
    obtain ⟨c0, c1, c2, c3, c4, c5⟩ := HOP.out w hw
    constructor <;> go_simp
  refine whichever_next 1 rfl (by as_aux_lemma => kernel_rfl) (by as_aux_lemma => kernel_rfl) ?_
  go_simp
  refine ⟨trivial, callsIn_wide.2 ((HCK.out _ hS).mono ?_)⟩
  rintro e w2 ⟨rfl, hb2⟩
  simp only
  have hS : Below wb.heap.size wb w2 := hS.trans (hb2.mono hS.size)
  refine ⟨hS, ?_⟩
  clear hb2
  refine whichever_next 2 rfl (by as_aux_lemma => kernel_rfl) (by as_aux_lemma => kernel_rfl) ?_
  go_simp
  refine ⟨trivial, callsIn_wide.2 ((num11c_any _ _).mono ?_)⟩
  rintro e w9 ⟨rfl, rfl⟩
  simp only
  refine ⟨hS, ?_⟩
  refine whichever_next 4 rfl (by as_aux_lemma => kernel_rfl) (by as_aux_lemma => kernel_rfl) ?_
  go_simp
  refine ⟨trivial, callsIn_wide.2 ((HRC.out _ hS).mono ?_)⟩
  rintro e w3 ⟨rfl, hb3⟩
  simp only
  have hS : Below wb.heap.size wb w3 := hS.trans (hb3.mono hS.size)
  refine ⟨hS, ?_⟩
  clear hb3
  refine whichever_take 5 (.bool true) [] rfl (by as_aux_lemma => kernel_rfl) (fun _ _ _ h => h) hS (by as_aux_lemma => kernel_rfl) (fun w hw => ?_) ?_
  · as_aux_lemma =>
    constructor <;> go_simp
  refine whichever_take 6 (.bool true) [] rfl (by as_aux_lemma => kernel_rfl) (fun _ _ _ h => h) hS (by as_aux_lemma => kernel_rfl) (fun w hw => ?_) ?_
  · as_aux_lemma =>
    constructor <;> go_simp
  refine whichever_take 7 (.pointer (some ⟨W.heap.size, 0, none⟩)) [] rfl (by as_aux_lemma => kernel_rfl) (fun _ _ _ h => h) hS (by as_aux_lemma => kernel_rfl) (fun w hw => ?_) ?_
  · as_aux_lemma =>
    constructor <;> go_simp
  refine whichever_take 8 (.int .i64 k) [] rfl (by as_aux_lemma => kernel_rfl) (fun _ _ _ h => h) hS (by as_aux_lemma => kernel_rfl) (fun w hw => ?_) ?_
  · as_aux_lemma =>
    obtain ⟨c0, c1, c2, c3, c4, c5⟩ := HOP.out w hw
    constructor <;> go_simp
  refine whichever_take 10 (.int .i64 k) [] rfl (by as_aux_lemma => kernel_rfl) (fun _ _ _ h => h) hS (by as_aux_lemma => kernel_rfl) (fun w hw => ?_) ?_
  · as_aux_lemma =>
    constructor <;> go_simp
  refine whichever_take 11 (.bool true) [] rfl (by as_aux_lemma => kernel_rfl) (fun _ _ _ h => h) hS (by as_aux_lemma => kernel_rfl) (fun w hw => ?_) ?_
  · as_aux_lemma =>
    constructor <;> go_simp
  refine whichever_next 9 rfl (by as_aux_lemma => kernel_rfl) (by as_aux_lemma => kernel_rfl) ?_
  go_simp
  refine ⟨trivial, callsIn_wide.2 ((HAS.out _).mono ?_)⟩
  rintro e w9 ⟨rfl, rfl⟩
  simp only
  refine ⟨hS, ?_⟩
  refine whichever_take 12 (.bool true) [] rfl (by as_aux_lemma => kernel_rfl) (fun _ _ _ h => h) hS (by as_aux_lemma => kernel_rfl) (fun w hw => ?_) ?_
  · as_aux_lemma =>
    constructor <;> go_simp
  refine whichever_take 13 (.int .i64 k) [] rfl (by as_aux_lemma => kernel_rfl) (fun _ _ _ h => h) hS (by as_aux_lemma => kernel_rfl) (fun w hw => ?_) ?_
  · as_aux_lemma =>
    constructor <;> go_simp
  refine whichever_take 14 (.bool false) [] rfl (by as_aux_lemma => kernel_rfl) (fun _ _ _ h => h) hS (by as_aux_lemma => kernel_rfl) (fun w hw => ?_) ?_
  · as_aux_lemma =>
    constructor <;> go_simp
  refine whichever_take 15 (.bool false) [] rfl (by as_aux_lemma => kernel_rfl) (fun _ _ _ h => h) hS (by as_aux_lemma => kernel_rfl) (fun w hw => ?_) ?_
  · as_aux_lemma =>
    constructor <;> go_simp
  refine whichever_take 16 (.bool true) [] rfl (by as_aux_lemma => kernel_rfl) (fun _ _ _ h => h) hS (by as_aux_lemma => kernel_rfl) (fun w hw => ?_) ?_
  · as_aux_lemma =>
    constructor <;> go_simp
  refine whichever_take 17 (.bool true) [] rfl (by as_aux_lemma => kernel_rfl) (fun _ _ _ h => h) hS (by as_aux_lemma => kernel_rfl) (fun w hw => ?_) ?_
  · as_aux_lemma =>
    constructor <;> go_simp
  refine whichever_take 18 (.bool true) [] rfl (by as_aux_lemma => kernel_rfl) (fun _ _ _ h => h) hS (by as_aux_lemma => kernel_rfl) (fun w hw => ?_) ?_
  · as_aux_lemma =>
    constructor <;> go_simp
  refine whichever_next 19 rfl (by as_aux_lemma => kernel_rfl) (by as_aux_lemma => kernel_rfl) ?_
  go_simp
  refine ⟨trivial, callsIn_wide.2 ((HWK _).mono ?_)⟩
  rintro e w4 ⟨rfl, hb4⟩
  simp only
  have hS : Below wb.heap.size wb w4 := hS.trans (hb4.mono hS.size)
  refine ⟨hS, ?_⟩
  clear hb4
  refine whichever_take 20 (.bool true) [] rfl (by as_aux_lemma => kernel_rfl) (fun _ _ _ h => h) hS (by as_aux_lemma => kernel_rfl) (fun w hw => ?_) ?_
  · as_aux_lemma =>
    constructor <;> go_simp
  refine whichever_take 21 (.bool true) [] rfl (by as_aux_lemma => kernel_rfl) (fun _ _ _ h => h) hS (by as_aux_lemma => kernel_rfl) (fun w hw => ?_) ?_
  · as_aux_lemma =>
    constructor <;> go_simp
  refine whichever_end (by kernel_rfl) ?_
  refine HK.out _ _ ?_
  go_wp2_with fail
  go_ret
  exact ⟨rfl, HB0.out.trans (hS.mono HB0.out.size)⟩
set_option maxRecDepth 200000 in
theorem modelChecks_of (HWK : Works) (k : Int) (p d : ByteArray) (a n : Int) (A : Option Addr) (m c : Nat) (bs : List UInt8) (W : World) (hk : -9223372036854775808 ≤ k ∧ k < 9223372036854775808) (ha : a < 9223372036854775808) (hn : n < 9223372036854775808)
    (hl : bs.length = m) (hmc : m ≤ c) (hc : c ≤ maxLen) (hrow : RowAt W A (bs.map encB)) :
    Calls Tryz.prog 4 #[.agg #[.int .i64 k, .string p, .string d, .int .i64 a, .int .i64 n, .slice A m c]] W fun e W' => e = .returned (.bool true) ∧ Below W.heap.size W W' := by
  cases hz : (⟨k, p, d, a, n, A, m, c, bs⟩ : OpP).small with
  | true =>
    by_cases h1 : k < 1
    · exact modelChecks_low HWK k p d a n A m c bs W hk ha hn hl (by omega) hrow hz h1
    · by_cases h3 : k ≤ 3
      · exact modelChecks_mid HWK k p d a n A m c bs W hk ha hn hl (by omega) hrow hz ⟨by omega, h3⟩
      · exact modelChecks_high HWK k p d a n A m c bs W hk ha hn hl (by omega) hrow hz (by omega)
  | false =>
    obtain ⟨W0, hW0⟩ : ∃ W0, (W.alloc (.cells #[.int .i64 k, .string p, .string d, .int .i64 a, .int .i64 n, .slice A m c] 32)).alloc (.cells #[.int .i64 k, .string p, .string d, .int .i64 a, .int .i64 n, .slice A m c] 32) = W0 := ⟨_, rfl⟩
    have hb0 : Below W.heap.size W W0 := by rw [← hW0]; exact ((Below.refl _ _).alloc (Nat.le_refl _) _).alloc (by simp) _
    have hR2 : RowAt W0 (some ⟨W.heap.size + 1, 0, none⟩) ([(⟨k, p, d, a, n, A, m, c, bs⟩ : OpP)].flatMap OpP.cells) := by
      rw [← hW0]
      have := rowAt_new (W.alloc (.cells #[.int .i64 k, .string p, .string d, .int .i64 a, .int .i64 n, .slice A m c] 32)) [.int .i64 k, .string p, .string d, .int .i64 a, .int .i64 n, .slice A m c] 32
      rw [show (W.alloc (.cells #[.int .i64 k, .string p, .string d, .int .i64 a, .int .i64 n, .slice A m c] 32)).heap.size = W.heap.size + 1 from by simp] at this
      exact this
    have hfw := few11_any [⟨k, p, d, a, n, A, m, c, bs⟩] _ 1 1 1 W0 rfl (by unfold maxLen; omega) hR2
    rw [show fewB [(⟨k, p, d, a, n, A, m, c, bs⟩ : OpP)] 1 = false by rw [fewB, List.all_cons, hz]; rfl] at hfw
    have HFW := Lib.hid hfw
    have HB0 := Lib.hid hb0
    have HW0 := Lib.hid hW0
    clear hfw hb0 hW0 hR2 hz hl hmc hc hrow hk ha hn
    go_enter Tryz.func4, Tryz.ntmps4
    go_wp2_with fail
    rw [HW0.out]
    refine HFW.out.mono ?_
    rintro e w ⟨rfl, rfl⟩
    go_wp2_with fail
    refine (HWK _).mono ?_
    rintro e w1 ⟨rfl, hb1⟩
    go_wp2_with fail
    go_ret
    exact ⟨rfl, HB0.out.trans (hb1.mono HB0.out.size)⟩
end Go.Proofs.YtibpagmpdgflmaaGreatDoor
