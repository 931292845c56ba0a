/- What stands ahead of the document's Check where no look is reached. The contract of the document's Check. Conditions: none. -/
import Derived.Test.YtibpagmpdgflmaaGreatDoorZF7
import Derived.Test.YtibpagmpdgflmaaGreatDoorZYV
import Derived.Test.YtibpagmpdgflmaaGreatDoorZYW
import Derived.Test.YtibpagmpdgflmaaGreatDoorZD2

namespace Go.Proofs.YtibpagmpdgflmaaGreatDoor
open Go.RowKit
attribute [local go_sem] Oper.semAt_some

theorem two11_any (k : Int) (W : World) : Calls Tryz.prog 36 #[.int .i64 k] W fun e W' => e = .returned (.bool (decide (k = 8 ∨ k = 9))) ∧ W' = W := by
  by_cases h1 : k = 8
  · subst h1
    go_enter Tryz.func36, Tryz.ntmps36
    go_wp2
    go_ret
    exact ⟨rfl, rfl⟩
  · by_cases h2 : k = 9
    · subst h2
      go_enter Tryz.func36, Tryz.ntmps36
      go_wp2
      go_ret
      exact ⟨rfl, rfl⟩
    · rw [decide_eq_false (show ¬ (k = 8 ∨ k = 9) by omega)]
      have h3 : (k == 8) = false := beq_eq_false_iff_ne.2 h1
      have h4 : (k == 9) = false := beq_eq_false_iff_ne.2 h2
      clear h1 h2
      go_enter Tryz.func36, Tryz.ntmps36
      go_wp2
      go_ret
      exact ⟨rfl, rfl⟩
set_option maxRecDepth 200000 in
set_option maxHeartbeats 8000000 in
theorem check11_any (k : Int) (p d : ByteArray) (a n : Int) (A : Option Addr) (m c : Nat) (W : World) (hp : p.size < 4294967281) (hd : d.size < 4294967281) :
    Calls Tryz.prog 16 #[opV k p d a n A m c] W fun e W' => e = .returned (.int .i64 (checkN k (bytesOf p) (bytesOf d) a n m)) ∧ Below W.heap.size W W' := by
  obtain ⟨W0, hW0⟩ : ∃ W0, W.alloc (.cells #[.int .i64 k, .string p, .string d, .int .i64 a, .int .i64 n, .slice A m c] 32) = W0 := ⟨_, rfl⟩
  have hb0 : Below W.heap.size W W0 := by rw [← hW0]; exact (Below.refl _ _).alloc (Nat.le_refl _) _
  have hs0 : W0.heap.size = W.heap.size + 1 := by rw [← hW0]; simp
  have hOP : CellsAt W0 W.heap.size 6 (cellsOp k p d a n A m c) := by
    rw [← hW0]
    exact cellsAt_new W _ _ 6 _ fun i hi => match i, hi with | 0, _ => rfl | 1, _ => rfl | 2, _ => rfl | 3, _ => rfl | 4, _ => rfl | 5, _ => rfl
  have HOP := Lib.hid hOP
  have HW0 := Lib.hid hW0
  have HB0 := Lib.hid hb0
  have HSP := refsplit_any p W0 hp
  have HSD := fun w => refsplit_any d w hd
  unfold SplitPPost at HSP HSD
  have HCN : checkN k (bytesOf p) (bytesOf d) a n m = if k < 1 ∨ 11 < k then 2
    else if (readP (bytesOf p)).1 ≠ 0 then ((readP (bytesOf p)).1 : Int)
    else if (k = 8 ∨ k = 9) ∧ (readP (bytesOf d)).1 ≠ 0 then ((readP (bytesOf d)).1 : Int)
    else if k = 3 then (if a < 0 ∨ n < 0 then 2 else 0)
    else if k = 10 then (if a < 0 then 2 else if 448 < a ∨ 448 < a + m then 190 else 0)
    else if k = 11 then (if n < 0 then 2 else if 448 < n then 190 else 0)
    else 0 := rfl
  generalize checkN k (bytesOf p) (bytesOf d) a n m = z at *
  generalize readP (bytesOf p) = rp at *
  generalize readP (bytesOf d) = rd at *
  obtain ⟨z1, n1⟩ := rp
  obtain ⟨z2, n2⟩ := rd
  simp only at *
  have hSP := Lib.hid HSP
  have hSD := Lib.hid HSD
  have HTW := Lib.hid two11_any
  clear HSP HSD hb0 hOP hW0 hp hd
  unfold opV
  by_cases h1 : k < 1 ∨ 11 < k
  · obtain rfl : z = 2 := by rw [HCN, if_pos h1]
    clear HCN
    rcases h1 with h1 | h1
    · have hk1 : decide (k < 1) = true := decide_eq_true h1
      clear h1
      go_enter Tryz.func16, Tryz.ntmps16
      go_wp2_with fail
      go_ret
      rw [HW0.out]
      exact ⟨rfl, HB0.out⟩
    · have hk1 : decide (k < 1) = false := decide_eq_false (by omega)
      have hk2 : decide (11 < k) = true := decide_eq_true h1
      clear h1
      go_enter Tryz.func16, Tryz.ntmps16
      go_wp2_with fail
      go_ret
      rw [HW0.out]
      exact ⟨rfl, HB0.out⟩
  · rw [if_neg h1] at HCN
    by_cases h2 : z1 ≠ 0
    · rw [if_pos h2] at HCN
      have hk1 : decide (k < 1) = false := decide_eq_false (by omega)
      have hk2 : decide (11 < k) = false := decide_eq_false (by omega)
      have hz1 : ((z1 : Int) != 0) = true := by rw [bne_iff_ne]; omega
      have HC := Lib.hid HCN
      clear HCN h1 h2
      go_enter Tryz.func16, Tryz.ntmps16
      go_wp2_with (first
        | (go_at_call 35; rw [HW0.out]; refine hSP.out.mono ?_; rintro e w1 ⟨v, rfl, hp1, hb1, hf1⟩))
      go_ret
      rw [HC.out]
      exact ⟨rfl, HB0.out.trans (hb1.mono (by omega))⟩
    · obtain rfl : z1 = 0 := by omega
      rw [if_neg h2] at HCN
      clear h2
      have HCA := Lib.hid HCN
      have hr : 1 ≤ k ∧ k ≤ 11 := by omega
      clear HCN h1
      by_cases h8 : (k = 8 ∨ k = 9) ∧ z2 ≠ 0
      · have HC : Hid (z = (z2 : Int)) := HCA.out.trans (if_pos h8)
        have hz2 : ((z2 : Int) != 0) = true := by rw [bne_iff_ne]; omega
        obtain ⟨h8, h9⟩ := h8
        clear HCA h9 hr
        rcases h8 with rfl | rfl
        all_goals
          go_enter Tryz.func16, Tryz.ntmps16
          go_wp2_with (first
            | (go_at_call 35; rw [HW0.out]; refine hSP.out.mono ?_; rintro e w1 ⟨v, rfl, hp1, hb1, hf1⟩; have o2 : w1.cell? ⟨W.heap.size, 2, none⟩ = some (.string d) := (hb1.cell (p := ⟨W.heap.size, 2, none⟩) (by show W.heap.size < W0.heap.size; omega)).trans (HOP.out.1 2 (by omega)); have HB1 := Lib.hid (HB0.out.trans (hb1.mono (by omega))); clear hb1)
            | (go_at_call 35; refine (hSD.out w1).mono ?_; rintro e w2 ⟨v2, rfl, hp2, hb2, hf2⟩; have HB2 := Lib.hid (HB1.out.trans (hb2.mono HB1.out.size)); clear hb2)
            | (go_at_call 36; refine (HTW.out _ _).mono ?_; rintro e w3 ⟨rfl, rfl⟩))
          go_ret
          rw [HC.out]
          exact ⟨rfl, HB2.out⟩
      · have HCB := HCA.out.trans (if_neg h8)
        clear HCA
        by_cases k3 : k = 3
        · clear hr
          subst k3
          have HCD := HCB.trans (if_pos rfl)
          clear HCB h8
          by_cases ha : a < 0
          · have HC : Hid (z = 2) := HCD.trans (if_pos (.inl ha))
            have ha1 : decide (a < 0) = true := decide_eq_true ha
            clear HCD ha
            go_enter Tryz.func16, Tryz.ntmps16
            go_wp2_with (first
              | (go_at_call 35; rw [HW0.out]; refine hSP.out.mono ?_; rintro e w1 ⟨v, rfl, hp1, hb1, hf1⟩; have o2 : w1.cell? ⟨W.heap.size, 2, none⟩ = some (.string d) := (hb1.cell (p := ⟨W.heap.size, 2, none⟩) (by show W.heap.size < W0.heap.size; omega)).trans (HOP.out.1 2 (by omega)); have HO1 := Lib.hid (HOP.out.below hb1 (by omega)); have HS1 := Lib.hid hb1.size; have HB1 := Lib.hid (HB0.out.trans (hb1.mono (by omega))); clear hb1)
              | (go_at_call 35; refine (hSD.out w1).mono ?_; rintro e w2 ⟨v2, rfl, hp2, hb2, hf2⟩; have HB2 := Lib.hid (HB1.out.trans (hb2.mono HB1.out.size)); have HO2 := Lib.hid (HO1.out.below hb2 (by have := HS1.out; omega)); have o3 : w2.cell? ⟨W.heap.size, 3, none⟩ = some (.int .i64 a) := HO2.out.1 3 (by omega); have o4 : w2.cell? ⟨W.heap.size, 4, none⟩ = some (.int .i64 n) := HO2.out.1 4 (by omega); have o5 : w2.cell? ⟨W.heap.size, 5, none⟩ = some (.slice A m c) := HO2.out.1 5 (by omega); clear hb2 o2)
              | (go_at_call 36; refine (HTW.out _ _).mono ?_; rintro e w3 ⟨rfl, rfl⟩))
            go_ret
            rw [HC.out]
            exact ⟨rfl, HB2.out⟩
          · have ha1 : decide (a < 0) = false := decide_eq_false ha
            by_cases hn : n < 0
            · have HC : Hid (z = 2) := HCD.trans (if_pos (.inr hn))
              have hn1 : decide (n < 0) = true := decide_eq_true hn
              clear HCD ha hn
              go_enter Tryz.func16, Tryz.ntmps16
              go_wp2_with (first
                | (go_at_call 35; rw [HW0.out]; refine hSP.out.mono ?_; rintro e w1 ⟨v, rfl, hp1, hb1, hf1⟩; have o2 : w1.cell? ⟨W.heap.size, 2, none⟩ = some (.string d) := (hb1.cell (p := ⟨W.heap.size, 2, none⟩) (by show W.heap.size < W0.heap.size; omega)).trans (HOP.out.1 2 (by omega)); have HO1 := Lib.hid (HOP.out.below hb1 (by omega)); have HS1 := Lib.hid hb1.size; have HB1 := Lib.hid (HB0.out.trans (hb1.mono (by omega))); clear hb1)
                | (go_at_call 35; refine (hSD.out w1).mono ?_; rintro e w2 ⟨v2, rfl, hp2, hb2, hf2⟩; have HB2 := Lib.hid (HB1.out.trans (hb2.mono HB1.out.size)); have HO2 := Lib.hid (HO1.out.below hb2 (by have := HS1.out; omega)); have o3 : w2.cell? ⟨W.heap.size, 3, none⟩ = some (.int .i64 a) := HO2.out.1 3 (by omega); have o4 : w2.cell? ⟨W.heap.size, 4, none⟩ = some (.int .i64 n) := HO2.out.1 4 (by omega); have o5 : w2.cell? ⟨W.heap.size, 5, none⟩ = some (.slice A m c) := HO2.out.1 5 (by omega); clear hb2 o2)
                | (go_at_call 36; refine (HTW.out _ _).mono ?_; rintro e w3 ⟨rfl, rfl⟩))
              go_ret
              rw [HC.out]
              exact ⟨rfl, HB2.out⟩
            · have HC : Hid (z = 0) := HCD.trans (if_neg (by omega))
              have hn1 : decide (n < 0) = false := decide_eq_false hn
              clear HCD ha hn
              go_enter Tryz.func16, Tryz.ntmps16
              go_wp2_with (first
                | (go_at_call 35; rw [HW0.out]; refine hSP.out.mono ?_; rintro e w1 ⟨v, rfl, hp1, hb1, hf1⟩; have o2 : w1.cell? ⟨W.heap.size, 2, none⟩ = some (.string d) := (hb1.cell (p := ⟨W.heap.size, 2, none⟩) (by show W.heap.size < W0.heap.size; omega)).trans (HOP.out.1 2 (by omega)); have HO1 := Lib.hid (HOP.out.below hb1 (by omega)); have HS1 := Lib.hid hb1.size; have HB1 := Lib.hid (HB0.out.trans (hb1.mono (by omega))); clear hb1)
                | (go_at_call 35; refine (hSD.out w1).mono ?_; rintro e w2 ⟨v2, rfl, hp2, hb2, hf2⟩; have HB2 := Lib.hid (HB1.out.trans (hb2.mono HB1.out.size)); have HO2 := Lib.hid (HO1.out.below hb2 (by have := HS1.out; omega)); have o3 : w2.cell? ⟨W.heap.size, 3, none⟩ = some (.int .i64 a) := HO2.out.1 3 (by omega); have o4 : w2.cell? ⟨W.heap.size, 4, none⟩ = some (.int .i64 n) := HO2.out.1 4 (by omega); have o5 : w2.cell? ⟨W.heap.size, 5, none⟩ = some (.slice A m c) := HO2.out.1 5 (by omega); clear hb2 o2)
                | (go_at_call 36; refine (HTW.out _ _).mono ?_; rintro e w3 ⟨rfl, rfl⟩))
              go_ret
              rw [HC.out]
              exact ⟨rfl, HB2.out⟩
        · have HCC := HCB.trans (if_neg k3)
          clear HCB
          by_cases k10 : k = 10
          · clear hr
            subst k10
            have HCD := HCC.trans (if_pos rfl)
            clear HCC h8 k3
            by_cases ha : a < 0
            · have HC : Hid (z = 2) := HCD.trans (if_pos ha)
              have ha1 : decide (a < 0) = true := decide_eq_true ha
              clear HCD ha
              go_enter Tryz.func16, Tryz.ntmps16
              go_wp2_with (first
                | (go_at_call 35; rw [HW0.out]; refine hSP.out.mono ?_; rintro e w1 ⟨v, rfl, hp1, hb1, hf1⟩; have o2 : w1.cell? ⟨W.heap.size, 2, none⟩ = some (.string d) := (hb1.cell (p := ⟨W.heap.size, 2, none⟩) (by show W.heap.size < W0.heap.size; omega)).trans (HOP.out.1 2 (by omega)); have HO1 := Lib.hid (HOP.out.below hb1 (by omega)); have HS1 := Lib.hid hb1.size; have HB1 := Lib.hid (HB0.out.trans (hb1.mono (by omega))); clear hb1)
                | (go_at_call 35; refine (hSD.out w1).mono ?_; rintro e w2 ⟨v2, rfl, hp2, hb2, hf2⟩; have HB2 := Lib.hid (HB1.out.trans (hb2.mono HB1.out.size)); have HO2 := Lib.hid (HO1.out.below hb2 (by have := HS1.out; omega)); have o3 : w2.cell? ⟨W.heap.size, 3, none⟩ = some (.int .i64 a) := HO2.out.1 3 (by omega); have o4 : w2.cell? ⟨W.heap.size, 4, none⟩ = some (.int .i64 n) := HO2.out.1 4 (by omega); have o5 : w2.cell? ⟨W.heap.size, 5, none⟩ = some (.slice A m c) := HO2.out.1 5 (by omega); clear hb2 o2)
                | (go_at_call 36; refine (HTW.out _ _).mono ?_; rintro e w3 ⟨rfl, rfl⟩))
              go_ret
              rw [HC.out]
              exact ⟨rfl, HB2.out⟩
            · have ha1 : decide (a < 0) = false := decide_eq_false ha
              have HCE := HCD.trans (if_neg ha)
              clear HCD
              by_cases hb : 448 < a
              · have HC : Hid (z = 190) := HCE.trans (if_pos (.inl hb))
                have hb1 : decide (448 < a) = true := decide_eq_true hb
                clear HCE ha hb
                go_enter Tryz.func16, Tryz.ntmps16
                go_wp2_with (first
                  | (go_at_call 35; rw [HW0.out]; refine hSP.out.mono ?_; rintro e w1 ⟨v, rfl, hp1, hbA, hf1⟩; have o2 : w1.cell? ⟨W.heap.size, 2, none⟩ = some (.string d) := (hbA.cell (p := ⟨W.heap.size, 2, none⟩) (by show W.heap.size < W0.heap.size; omega)).trans (HOP.out.1 2 (by omega)); have HO1 := Lib.hid (HOP.out.below hbA (by omega)); have HS1 := Lib.hid hbA.size; have HB1 := Lib.hid (HB0.out.trans (hbA.mono (by omega))); clear hbA)
                  | (go_at_call 35; refine (hSD.out w1).mono ?_; rintro e w2 ⟨v2, rfl, hp2, hb2, hf2⟩; have HB2 := Lib.hid (HB1.out.trans (hb2.mono HB1.out.size)); have HO2 := Lib.hid (HO1.out.below hb2 (by have := HS1.out; omega)); have o3 : w2.cell? ⟨W.heap.size, 3, none⟩ = some (.int .i64 a) := HO2.out.1 3 (by omega); have o4 : w2.cell? ⟨W.heap.size, 4, none⟩ = some (.int .i64 n) := HO2.out.1 4 (by omega); have o5 : w2.cell? ⟨W.heap.size, 5, none⟩ = some (.slice A m c) := HO2.out.1 5 (by omega); clear hb2 o2)
                  | (go_at_call 36; refine (HTW.out _ _).mono ?_; rintro e w3 ⟨rfl, rfl⟩))
                go_ret
                rw [HC.out]
                exact ⟨rfl, HB2.out⟩
              · have hbz : decide (448 < a) = false := decide_eq_false hb
                have hw : IntKind.i64.wrap (448 - a) = 448 - a := IntWalk.i64_in _ (by omega)
                by_cases hm : 448 - a < (m : Int)
                · have HC : Hid (z = 190) := HCE.trans (if_pos (.inr (by omega)))
                  have hmz : decide (448 - a < (m : Int)) = true := decide_eq_true hm
                  clear HCE ha hb hm
                  go_enter Tryz.func16, Tryz.ntmps16
                  go_wp2_with (first
                    | (go_at_call 35; rw [HW0.out]; refine hSP.out.mono ?_; rintro e w1 ⟨v, rfl, hp1, hb1, hf1⟩; have o2 : w1.cell? ⟨W.heap.size, 2, none⟩ = some (.string d) := (hb1.cell (p := ⟨W.heap.size, 2, none⟩) (by show W.heap.size < W0.heap.size; omega)).trans (HOP.out.1 2 (by omega)); have HO1 := Lib.hid (HOP.out.below hb1 (by omega)); have HS1 := Lib.hid hb1.size; have HB1 := Lib.hid (HB0.out.trans (hb1.mono (by omega))); clear hb1)
                    | (go_at_call 35; refine (hSD.out w1).mono ?_; rintro e w2 ⟨v2, rfl, hp2, hb2, hf2⟩; have HB2 := Lib.hid (HB1.out.trans (hb2.mono HB1.out.size)); have HO2 := Lib.hid (HO1.out.below hb2 (by have := HS1.out; omega)); have o3 : w2.cell? ⟨W.heap.size, 3, none⟩ = some (.int .i64 a) := HO2.out.1 3 (by omega); have o4 : w2.cell? ⟨W.heap.size, 4, none⟩ = some (.int .i64 n) := HO2.out.1 4 (by omega); have o5 : w2.cell? ⟨W.heap.size, 5, none⟩ = some (.slice A m c) := HO2.out.1 5 (by omega); clear hb2 o2)
                    | (go_at_call 36; refine (HTW.out _ _).mono ?_; rintro e w3 ⟨rfl, rfl⟩))
                  go_ret
                  rw [HC.out]
                  exact ⟨rfl, HB2.out⟩
                · have HC : Hid (z = 0) := HCE.trans (if_neg (by omega))
                  have hmz : decide (448 - a < (m : Int)) = false := decide_eq_false hm
                  clear HCE ha hb hm
                  go_enter Tryz.func16, Tryz.ntmps16
                  go_wp2_with (first
                    | (go_at_call 35; rw [HW0.out]; refine hSP.out.mono ?_; rintro e w1 ⟨v, rfl, hp1, hb1, hf1⟩; have o2 : w1.cell? ⟨W.heap.size, 2, none⟩ = some (.string d) := (hb1.cell (p := ⟨W.heap.size, 2, none⟩) (by show W.heap.size < W0.heap.size; omega)).trans (HOP.out.1 2 (by omega)); have HO1 := Lib.hid (HOP.out.below hb1 (by omega)); have HS1 := Lib.hid hb1.size; have HB1 := Lib.hid (HB0.out.trans (hb1.mono (by omega))); clear hb1)
                    | (go_at_call 35; refine (hSD.out w1).mono ?_; rintro e w2 ⟨v2, rfl, hp2, hb2, hf2⟩; have HB2 := Lib.hid (HB1.out.trans (hb2.mono HB1.out.size)); have HO2 := Lib.hid (HO1.out.below hb2 (by have := HS1.out; omega)); have o3 : w2.cell? ⟨W.heap.size, 3, none⟩ = some (.int .i64 a) := HO2.out.1 3 (by omega); have o4 : w2.cell? ⟨W.heap.size, 4, none⟩ = some (.int .i64 n) := HO2.out.1 4 (by omega); have o5 : w2.cell? ⟨W.heap.size, 5, none⟩ = some (.slice A m c) := HO2.out.1 5 (by omega); clear hb2 o2)
                    | (go_at_call 36; refine (HTW.out _ _).mono ?_; rintro e w3 ⟨rfl, rfl⟩))
                  go_ret
                  rw [HC.out]
                  exact ⟨rfl, HB2.out⟩
          · have HCD := HCC.trans (if_neg k10)
            clear HCC
            by_cases k11 : k = 11
            · clear hr
              subst k11
              have HCE := HCD.trans (if_pos rfl)
              clear HCD h8 k3 k10
              by_cases hn : n < 0
              · have HC : Hid (z = 2) := HCE.trans (if_pos hn)
                have hn1 : decide (n < 0) = true := decide_eq_true hn
                clear HCE hn
                go_enter Tryz.func16, Tryz.ntmps16
                go_wp2_with (first
                  | (go_at_call 35; rw [HW0.out]; refine hSP.out.mono ?_; rintro e w1 ⟨v, rfl, hp1, hb1, hf1⟩; have o2 : w1.cell? ⟨W.heap.size, 2, none⟩ = some (.string d) := (hb1.cell (p := ⟨W.heap.size, 2, none⟩) (by show W.heap.size < W0.heap.size; omega)).trans (HOP.out.1 2 (by omega)); have HO1 := Lib.hid (HOP.out.below hb1 (by omega)); have HS1 := Lib.hid hb1.size; have HB1 := Lib.hid (HB0.out.trans (hb1.mono (by omega))); clear hb1)
                  | (go_at_call 35; refine (hSD.out w1).mono ?_; rintro e w2 ⟨v2, rfl, hp2, hb2, hf2⟩; have HB2 := Lib.hid (HB1.out.trans (hb2.mono HB1.out.size)); have HO2 := Lib.hid (HO1.out.below hb2 (by have := HS1.out; omega)); have o3 : w2.cell? ⟨W.heap.size, 3, none⟩ = some (.int .i64 a) := HO2.out.1 3 (by omega); have o4 : w2.cell? ⟨W.heap.size, 4, none⟩ = some (.int .i64 n) := HO2.out.1 4 (by omega); have o5 : w2.cell? ⟨W.heap.size, 5, none⟩ = some (.slice A m c) := HO2.out.1 5 (by omega); clear hb2 o2)
                  | (go_at_call 36; refine (HTW.out _ _).mono ?_; rintro e w3 ⟨rfl, rfl⟩))
                go_ret
                rw [HC.out]
                exact ⟨rfl, HB2.out⟩
              · have hn1 : decide (n < 0) = false := decide_eq_false hn
                have HCF := HCE.trans (if_neg hn)
                clear HCE
                by_cases hb : 448 < n
                · have HC : Hid (z = 190) := HCF.trans (if_pos hb)
                  have hbz : decide (448 < n) = true := decide_eq_true hb
                  clear HCF hn hb
                  go_enter Tryz.func16, Tryz.ntmps16
                  go_wp2_with (first
                    | (go_at_call 35; rw [HW0.out]; refine hSP.out.mono ?_; rintro e w1 ⟨v, rfl, hp1, hb1, hf1⟩; have o2 : w1.cell? ⟨W.heap.size, 2, none⟩ = some (.string d) := (hb1.cell (p := ⟨W.heap.size, 2, none⟩) (by show W.heap.size < W0.heap.size; omega)).trans (HOP.out.1 2 (by omega)); have HO1 := Lib.hid (HOP.out.below hb1 (by omega)); have HS1 := Lib.hid hb1.size; have HB1 := Lib.hid (HB0.out.trans (hb1.mono (by omega))); clear hb1)
                    | (go_at_call 35; refine (hSD.out w1).mono ?_; rintro e w2 ⟨v2, rfl, hp2, hb2, hf2⟩; have HB2 := Lib.hid (HB1.out.trans (hb2.mono HB1.out.size)); have HO2 := Lib.hid (HO1.out.below hb2 (by have := HS1.out; omega)); have o3 : w2.cell? ⟨W.heap.size, 3, none⟩ = some (.int .i64 a) := HO2.out.1 3 (by omega); have o4 : w2.cell? ⟨W.heap.size, 4, none⟩ = some (.int .i64 n) := HO2.out.1 4 (by omega); have o5 : w2.cell? ⟨W.heap.size, 5, none⟩ = some (.slice A m c) := HO2.out.1 5 (by omega); clear hb2 o2)
                    | (go_at_call 36; refine (HTW.out _ _).mono ?_; rintro e w3 ⟨rfl, rfl⟩))
                  go_ret
                  rw [HC.out]
                  exact ⟨rfl, HB2.out⟩
                · have HC : Hid (z = 0) := HCF.trans (if_neg hb)
                  have hbz : decide (448 < n) = false := decide_eq_false hb
                  clear HCF hn hb
                  go_enter Tryz.func16, Tryz.ntmps16
                  go_wp2_with (first
                    | (go_at_call 35; rw [HW0.out]; refine hSP.out.mono ?_; rintro e w1 ⟨v, rfl, hp1, hb1, hf1⟩; have o2 : w1.cell? ⟨W.heap.size, 2, none⟩ = some (.string d) := (hb1.cell (p := ⟨W.heap.size, 2, none⟩) (by show W.heap.size < W0.heap.size; omega)).trans (HOP.out.1 2 (by omega)); have HO1 := Lib.hid (HOP.out.below hb1 (by omega)); have HS1 := Lib.hid hb1.size; have HB1 := Lib.hid (HB0.out.trans (hb1.mono (by omega))); clear hb1)
                    | (go_at_call 35; refine (hSD.out w1).mono ?_; rintro e w2 ⟨v2, rfl, hp2, hb2, hf2⟩; have HB2 := Lib.hid (HB1.out.trans (hb2.mono HB1.out.size)); have HO2 := Lib.hid (HO1.out.below hb2 (by have := HS1.out; omega)); have o3 : w2.cell? ⟨W.heap.size, 3, none⟩ = some (.int .i64 a) := HO2.out.1 3 (by omega); have o4 : w2.cell? ⟨W.heap.size, 4, none⟩ = some (.int .i64 n) := HO2.out.1 4 (by omega); have o5 : w2.cell? ⟨W.heap.size, 5, none⟩ = some (.slice A m c) := HO2.out.1 5 (by omega); clear hb2 o2)
                    | (go_at_call 36; refine (HTW.out _ _).mono ?_; rintro e w3 ⟨rfl, rfl⟩))
                  go_ret
                  rw [HC.out]
                  exact ⟨rfl, HB2.out⟩
            · have HC : Hid (z = 0) := HCD.trans (if_neg k11)
              clear HCD
              have hkl : decide (k < 1) = false := decide_eq_false (by omega)
              have hkg : decide (11 < k) = false := decide_eq_false (by omega)
              have e3 : (k == 3) = false := beq_eq_false_iff_ne.2 k3
              have e10 : (k == 10) = false := beq_eq_false_iff_ne.2 k10
              have e11 : (k == 11) = false := beq_eq_false_iff_ne.2 k11
              have hz2 : decide (k = 8 ∨ k = 9) = true ∧ ((z2 : Int) != 0) = false ∨ decide (k = 8 ∨ k = 9) = false := by
                by_cases h : k = 8 ∨ k = 9
                · refine .inl ⟨decide_eq_true h, ?_⟩
                  rw [bne_eq_false_iff_eq]
                  have : z2 = 0 := by
                    by_cases hz : z2 = 0
                    · exact hz
                    · exact absurd ⟨h, hz⟩ h8
                  omega
                · exact .inr (decide_eq_false h)
              clear h8 k3 k10 k11
              have HTK := Lib.hid (HTW.out k)
              clear HTW hr
              generalize decide (k = 8 ∨ k = 9) = kb at *
              rcases hz2 with ⟨rfl, hz2⟩ | rfl
              all_goals
                go_enter Tryz.func16, Tryz.ntmps16
                go_wp2_with (first
                  | (go_at_call 35; rw [HW0.out]; refine hSP.out.mono ?_; rintro e w1 ⟨v, rfl, hp1, hb1, hf1⟩; have o2 : w1.cell? ⟨W.heap.size, 2, none⟩ = some (.string d) := (hb1.cell (p := ⟨W.heap.size, 2, none⟩) (by show W.heap.size < W0.heap.size; omega)).trans (HOP.out.1 2 (by omega)); have HO1 := Lib.hid (HOP.out.below hb1 (by omega)); have HS1 := Lib.hid hb1.size; have HB1 := Lib.hid (HB0.out.trans (hb1.mono (by omega))); clear hb1)
                  | (go_at_call 35; refine (hSD.out w1).mono ?_; rintro e w2 ⟨v2, rfl, hp2, hb2, hf2⟩; have HB2 := Lib.hid (HB1.out.trans (hb2.mono HB1.out.size)); have HO2 := Lib.hid (HO1.out.below hb2 (by have := HS1.out; omega)); have o3 : w2.cell? ⟨W.heap.size, 3, none⟩ = some (.int .i64 a) := HO2.out.1 3 (by omega); have o4 : w2.cell? ⟨W.heap.size, 4, none⟩ = some (.int .i64 n) := HO2.out.1 4 (by omega); have o5 : w2.cell? ⟨W.heap.size, 5, none⟩ = some (.slice A m c) := HO2.out.1 5 (by omega); clear hb2 o2)
                  | (go_at_call 36; refine (HTK.out _).mono ?_; rintro e w3 ⟨rfl, rfl⟩))
                go_ret
                rw [HC.out]
                exact ⟨rfl, HB2.out⟩
end Go.Proofs.YtibpagmpdgflmaaGreatDoor
