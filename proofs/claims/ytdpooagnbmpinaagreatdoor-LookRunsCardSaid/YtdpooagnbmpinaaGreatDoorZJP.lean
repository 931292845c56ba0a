import Derived.Test.YtdpooagnbmpinaaGreatDoorZJO
import Derived.Test.YtdpooagnbmpinaaGreatDoorZFD
namespace Go.Proofs.YtdpooagnbmpinaaGreatDoor
section
open Go.RowKit
attribute [local go_sem] Oper.semAt_some
set_option maxRecDepth 400000 in
set_option maxHeartbeats 16000000 in
theorem lookRuns_in (k : Int) (p d : ByteArray) (a n : Int) (A : Option Addr) (m c : Nat) (F : Option Addr) (nf cf : Nat) (l : LookP) (z : Int) (W : World) (hfew : p.size <= 200 ∧ d.size <= 200 ∧ m <= 500) (hnf : nf <= 300)
  (hz : z ≠ 0 -> l.more = false ∧ l.used = 0)
  (hA : ∀ W',Below W.heap.size W W' -> Calls Tryz.prog 8 #[opV k p d a n A m c,.slice F nf cf] W' (LookR (l,z) W'))
  (hB : ∀ W',Below W.heap.size W W' -> Calls Tryz.prog 9 #[opV k p d a n A m c,.slice F nf cf] W' (LookR (l,z) W')) :
  Calls Tryz.prog 6 #[opV k p d a n A m c,.slice F nf cf] W fun e W' => e = .returned (.bool true) ∧ Below W.heap.size W W' := by
 obtain ⟨W0,hW0⟩ : ∃ W0,W.alloc (.cells #[.int .i64 k,.string p,.string d,.int .i64 a,.int .i64 n,.slice A m c] 28) = W0 := ⟨_,rfl⟩
 have h0 := lawBegun k p d a n A m c W W0 hW0
 have hfw := few22_any k p d a n A m c W0
 rw [decide_eq_true hfew] at hfw
 have hs0 := h0.size
 have hq1 : decide ((300 : Int) < (nf : Int)) = false := decide_eq_false (by omega)
 have HNE := Lib.hid (fun (W1 : World) (h1 : Below W.heap.size W W1) => needs22_any k p d a n A m c F nf cf l z W1 fun W' h' => hA W' (h1.trans (h'.mono h1.size)))
 have HST := Lib.hid (fun (W1 : World) (h1 : Below W.heap.size W W1) => steps22_any k p d a n A m c F nf cf l z W1 fun W' h' => hA W' (h1.trans (h'.mono h1.size)))
 have HSM := Lib.hid (fun (NA NB BA BB : Option Addr) (nn nc bn bc mn mc cn cc b1 b2 : Nat) (W1 : World) (h1 : RowsAt b1 W1 l.res NA nn nc BA bn bc) (h2 : RowsAt b2 W1 l.res NB mn mc BB cn cc) => same22_any l NA NB BA BB nn nc bn bc mn mc cn cc b1 b2 W1 h1 h2)
 unfold opV at hfw hA hB HNE HST ⊢
 unfold lookV at HSM
 have HFW := Lib.hid hfw
 have HA := Lib.hid hA
 have HB := Lib.hid hB
 have H0 := Lib.hid h0
 have HW0 := Lib.hid hW0
 have HZ := Lib.hid hz
 have HWK := Lib.hid works22_any
 have HNM := Lib.hid num22_any
 clear hfw hA hB h0 hW0 hfew hz hnf
 go_enter Tryz.func6,Tryz.ntmps6
 go_wp2_with (go_at_call 12;rw [HW0.out];refine HFW.out.mono ?_;rintro e w1 ⟨rfl,hb1⟩;have HO1 := Lib.hid (H0.out.op.below hb1 (by omega));have HB1 := Lib.hid (H0.out.below.trans (hb1.mono (by omega)));have hs1 : W.heap.size + 1 <= w1.heap.size := (by have := hb1.size;omega);have o0 : w1.cell? ⟨W.heap.size,0,none⟩ = some (.int .i64 k) := HO1.out.1 0 (by omega);have o1 : w1.cell? ⟨W.heap.size,1,none⟩ = some (.string p) := HO1.out.1 1 (by omega);have o2 : w1.cell? ⟨W.heap.size,2,none⟩ = some (.string d) := HO1.out.1 2 (by omega);have o3 : w1.cell? ⟨W.heap.size,3,none⟩ = some (.int .i64 a) := HO1.out.1 3 (by omega);have o4 : w1.cell? ⟨W.heap.size,4,none⟩ = some (.int .i64 n) := HO1.out.1 4 (by omega);have o5 : w1.cell? ⟨W.heap.size,5,none⟩ = some (.slice A m c) := HO1.out.1 5 (by omega);clear hb1)
 refine (HA.out w1 HB1.out).mono ?_
 rintro e w2 ⟨⟨NA,nn,nc,BA,bn,bc,rfl,hrow⟩,hb2⟩
 obtain ⟨X,hX⟩ : ∃ x,w2.heap.size = x := ⟨_,rfl⟩
 obtain ⟨w3,hw3⟩ : ∃ x,w2.alloc (.cells #[.bool l.more,.int .i64 l.at_,.int .i64 l.used,.int .i64 l.res.no,.int .i64 l.res.kind,.int .i64 l.res.links,.int .i64 l.res.n,.slice NA nn nc,.slice BA bn bc] 35) = x := ⟨_,rfl⟩
 have hbw3 : Below w2.heap.size w2 w3 := by rw [<- hw3];exact (Below.refl _ _).alloc (Nat.le_refl _) _
 have HX : Hid (CellsAt w3 X 9 (cellsLk l NA nn nc BA bn bc)) := by
  rw [Hid,<- hw3,<- hX]
  exact cellsAt_new _ _ _ _ _ fun i hi => match i,hi with | 0,_ => rfl | 1,_ => rfl | 2,_ => rfl | 3,_ => rfl | 4,_ => rfl | 5,_ => rfl | 6,_ => rfl | 7,_ => rfl | 8,_ => rfl
 have hsw3 : w3.heap.size = X + 1 := by rw [<- hw3,<- hX];simp
 have hs2 := hb2.size
 have HO3 := Lib.hid ((HO1.out.below hb2 (by omega)).below hbw3 (by omega))
 have HB3 := Lib.hid (HB1.out.trans ((hb2.trans (hbw3.mono hb2.size)).mono (by omega)))
 have HR3 : Hid (RowsAt w1.heap.size w3 l.res NA nn nc BA bn bc) := RowsAt.below (base := w1.heap.size) hrow hbw3 (Nat.le_refl _)
 clear hb2 hbw3 hrow o0 o1 o2 o3 o4 o5 HA H0 HFW HW0 HO1
 have o0 : w3.cell? ⟨W.heap.size,0,none⟩ = some (.int .i64 k) := HO3.out.1 0 (by omega)
 have o1 : w3.cell? ⟨W.heap.size,1,none⟩ = some (.string p) := HO3.out.1 1 (by omega)
 have o2 : w3.cell? ⟨W.heap.size,2,none⟩ = some (.string d) := HO3.out.1 2 (by omega)
 have o3 : w3.cell? ⟨W.heap.size,3,none⟩ = some (.int .i64 a) := HO3.out.1 3 (by omega)
 have o4 : w3.cell? ⟨W.heap.size,4,none⟩ = some (.int .i64 n) := HO3.out.1 4 (by omega)
 have o5 : w3.cell? ⟨W.heap.size,5,none⟩ = some (.slice A m c) := HO3.out.1 5 (by omega)
 unfold lookV
 dsimp only
 go_wp2_with fail
 refine (HB.out w3 HB3.out).mono ?_
 rintro e w4 ⟨⟨NA',nn',nc',BA',bn',bc',rfl,hrow⟩,hb4⟩
 clear hw3
 obtain ⟨Y,hY⟩ : ∃ x,w4.heap.size = x := ⟨_,rfl⟩
 obtain ⟨w5,hw5⟩ : ∃ x,w4.alloc (.cells #[.bool l.more,.int .i64 l.at_,.int .i64 l.used,.int .i64 l.res.no,.int .i64 l.res.kind,.int .i64 l.res.links,.int .i64 l.res.n,.slice NA' nn' nc',.slice BA' bn' bc'] 35) = x := ⟨_,rfl⟩
 have hbw5 : Below w4.heap.size w4 w5 := by rw [<- hw5];exact (Below.refl _ _).alloc (Nat.le_refl _) _
 have HY : Hid (CellsAt w5 Y 9 (cellsLk l NA' nn' nc' BA' bn' bc')) := by
  rw [Hid,<- hw5,<- hY]
  exact cellsAt_new _ _ _ _ _ fun i hi => match i,hi with | 0,_ => rfl | 1,_ => rfl | 2,_ => rfl | 3,_ => rfl | 4,_ => rfl | 5,_ => rfl | 6,_ => rfl | 7,_ => rfl | 8,_ => rfl
 have hsw5 : w5.heap.size = Y + 1 := by rw [<- hw5,<- hY];simp
 have hs4 := hb4.size
 have hb45 : Below w3.heap.size w3 w5 := hb4.trans (hbw5.mono hb4.size)
 have HO5 := Lib.hid (HO3.out.below hb45 (by omega))
 have HX5 := Lib.hid (HX.out.below hb45 (by omega))
 have HB5 := Lib.hid (HB3.out.trans (hb45.mono (by omega)))
 have HR5 := Lib.hid (HR3.out.below hb45 (Nat.le_refl _))
 have HQ5 : Hid (RowsAt w3.heap.size w5 l.res NA' nn' nc' BA' bn' bc') := RowsAt.below (base := w3.heap.size) hrow hbw5 (Nat.le_refl _)
 clear hb4 hbw5 hb45 hrow o0 o1 o2 o3 o4 o5 HX HO3 HB
 have o0 : w5.cell? ⟨W.heap.size,0,none⟩ = some (.int .i64 k) := HO5.out.1 0 (by omega)
 have o1 : w5.cell? ⟨W.heap.size,1,none⟩ = some (.string p) := HO5.out.1 1 (by omega)
 have o2 : w5.cell? ⟨W.heap.size,2,none⟩ = some (.string d) := HO5.out.1 2 (by omega)
 have o3 : w5.cell? ⟨W.heap.size,3,none⟩ = some (.int .i64 a) := HO5.out.1 3 (by omega)
 have o4 : w5.cell? ⟨W.heap.size,4,none⟩ = some (.int .i64 n) := HO5.out.1 4 (by omega)
 have o5 : w5.cell? ⟨W.heap.size,5,none⟩ = some (.slice A m c) := HO5.out.1 5 (by omega)
 unfold lookV
 dsimp only
 go_wp2_with fail
 refine (HNE.out w5 HB5.out).mono ?_
 rintro e w6 ⟨rfl,hb6⟩
 clear hw5
 have hs6 := hb6.size
 have HO6 := Lib.hid (HO5.out.below hb6 (by omega))
 have HX6 := Lib.hid (HX5.out.below hb6 (by omega))
 have HY6 := Lib.hid (HY.out.below hb6 (by omega))
 have HB6 := Lib.hid (HB5.out.trans (hb6.mono (by omega)))
 have HR6 := Lib.hid (HR5.out.below hb6 (Nat.le_refl _))
 have HQ6 := Lib.hid (HQ5.out.below hb6 (Nat.le_refl _))
 clear hb6 o0 o1 o2 o3 o4 o5 HX5 HY HO5 HNE
 have o0 : w6.cell? ⟨W.heap.size,0,none⟩ = some (.int .i64 k) := HO6.out.1 0 (by omega)
 have o1 : w6.cell? ⟨W.heap.size,1,none⟩ = some (.string p) := HO6.out.1 1 (by omega)
 have o2 : w6.cell? ⟨W.heap.size,2,none⟩ = some (.string d) := HO6.out.1 2 (by omega)
 have o3 : w6.cell? ⟨W.heap.size,3,none⟩ = some (.int .i64 a) := HO6.out.1 3 (by omega)
 have o4 : w6.cell? ⟨W.heap.size,4,none⟩ = some (.int .i64 n) := HO6.out.1 4 (by omega)
 have o5 : w6.cell? ⟨W.heap.size,5,none⟩ = some (.slice A m c) := HO6.out.1 5 (by omega)
 go_wp2_with fail
 refine (HST.out w6 HB6.out).mono ?_
 rintro e w7 ⟨rfl,hb7⟩
 have hs7 := hb7.size
 have HX7 := Lib.hid (HX6.out.below hb7 (by omega))
 have HY7 := Lib.hid (HY6.out.below hb7 (by omega))
 have HB7 := Lib.hid (HB6.out.trans (hb7.mono (by omega)))
 have HD := Lib.hid (HSM.out NA NA' BA BA' nn nc bn bc nn' nc' bn' bc' _ _ w7 (HR6.out.below hb7 (Nat.le_refl _)) (HQ6.out.below hb7 (Nat.le_refl _)))
 clear hb7 o0 o1 o2 o3 o4 o5 HX6 HY6 HO6 HST HSM HR3 HR5 HR6 HQ5 HQ6
 have g0 : w7.cell? ⟨X,0,none⟩ = some (.bool l.more) := HX7.out.1 0 (by omega)
 have g1 : w7.cell? ⟨X,1,none⟩ = some (.int .i64 l.at_) := HX7.out.1 1 (by omega)
 have g2 : w7.cell? ⟨X,2,none⟩ = some (.int .i64 l.used) := HX7.out.1 2 (by omega)
 have g3 : w7.cell? ⟨X,3,none⟩ = some (.int .i64 l.res.no) := HX7.out.1 3 (by omega)
 have g4 : w7.cell? ⟨X,4,none⟩ = some (.int .i64 l.res.kind) := HX7.out.1 4 (by omega)
 have g5 : w7.cell? ⟨X,5,none⟩ = some (.int .i64 l.res.links) := HX7.out.1 5 (by omega)
 have g6 : w7.cell? ⟨X,6,none⟩ = some (.int .i64 l.res.n) := HX7.out.1 6 (by omega)
 have g7 : w7.cell? ⟨X,7,none⟩ = some (.slice NA nn nc) := HX7.out.1 7 (by omega)
 have g8 : w7.cell? ⟨X,8,none⟩ = some (.slice BA bn bc) := HX7.out.1 8 (by omega)
 have e0 : w7.cell? ⟨Y,0,none⟩ = some (.bool l.more) := HY7.out.1 0 (by omega)
 have e1 : w7.cell? ⟨Y,1,none⟩ = some (.int .i64 l.at_) := HY7.out.1 1 (by omega)
 have e2 : w7.cell? ⟨Y,2,none⟩ = some (.int .i64 l.used) := HY7.out.1 2 (by omega)
 have e3 : w7.cell? ⟨Y,3,none⟩ = some (.int .i64 l.res.no) := HY7.out.1 3 (by omega)
 have e4 : w7.cell? ⟨Y,4,none⟩ = some (.int .i64 l.res.kind) := HY7.out.1 4 (by omega)
 have e5 : w7.cell? ⟨Y,5,none⟩ = some (.int .i64 l.res.links) := HY7.out.1 5 (by omega)
 have e6 : w7.cell? ⟨Y,6,none⟩ = some (.int .i64 l.res.n) := HY7.out.1 6 (by omega)
 have e7 : w7.cell? ⟨Y,7,none⟩ = some (.slice NA' nn' nc') := HY7.out.1 7 (by omega)
 have e8 : w7.cell? ⟨Y,8,none⟩ = some (.slice BA' bn' bc') := HY7.out.1 8 (by omega)
 have hways : (z ≠ 0 ∧ l.more = false ∧ l.used = 0) ∨ (z = 0 ∧ l.more = true) ∨ (z = 0 ∧ l.more = false) := by
  by_cases h : z = 0
  ·cases hm : l.more
   ·exact .inr (.inr ⟨h,rfl⟩)
   ·exact .inr (.inl ⟨h,rfl⟩)
  ·exact .inl ⟨h,HZ.out h⟩
 rcases hways with ⟨hz,hm,hu⟩ | ⟨rfl,hm⟩ | ⟨rfl,hm⟩
 ·have hzb : (z != 0) = true := by rw [bne_iff_ne];exact hz
  rw [if_neg (fun h => hz h.1)]
  rw [hm] at g0 e0 HD ⊢
  have HM := Lib.hid hm
  have hu1 : ((l.used : Int) == 0) = true := by rw [hu];rfl
  clear hz HZ hm hu
  go_wp2_with (first
    | (go_at_call 10;refine HD.out.mono ?_;rintro e w8 ⟨rfl,hb8⟩;have hs8 := hb8.size;have HY8 := Lib.hid (HY7.out.below hb8 (by omega));have e0 : w8.cell? ⟨Y,0,none⟩ = some (.bool false) := (by rw [<- HM.out];exact HY8.out.1 0 (by omega));have e1 : w8.cell? ⟨Y,1,none⟩ = some (.int .i64 l.at_) := HY8.out.1 1 (by omega);have e2 : w8.cell? ⟨Y,2,none⟩ = some (.int .i64 l.used) := HY8.out.1 2 (by omega);have HB8 := Lib.hid (HB7.out.trans (hb8.mono (by omega)));clear hb8)
    | (go_at_call 11;refine (HNM.out _ _).mono ?_;rintro e w9 ⟨rfl,rfl⟩)
    | (go_at_call 7;refine (HWK.out _).mono ?_;rintro e w10 ⟨rfl,hb10⟩))
  go_ret
  exact ⟨rfl,HB8.out.trans (hb10.mono HB8.out.size)⟩
 ·rw [if_pos ⟨rfl,hm⟩]
  rw [hm] at g0 e0 HD ⊢
  have HM := Lib.hid hm
  clear HZ hm
  go_wp2_with (first
    | (go_at_call 10;refine HD.out.mono ?_;rintro e w8 ⟨rfl,hb8⟩;have hs8 := hb8.size;have HY8 := Lib.hid (HY7.out.below hb8 (by omega));have e0 : w8.cell? ⟨Y,0,none⟩ = some (.bool true) := (by rw [<- HM.out];exact HY8.out.1 0 (by omega));have e1 : w8.cell? ⟨Y,1,none⟩ = some (.int .i64 l.at_) := HY8.out.1 1 (by omega);have e2 : w8.cell? ⟨Y,2,none⟩ = some (.int .i64 l.used) := HY8.out.1 2 (by omega);have HB8 := Lib.hid (HB7.out.trans (hb8.mono (by omega)));clear hb8)
    | (go_at_call 11;refine (HNM.out _ _).mono ?_;rintro e w9 ⟨rfl,rfl⟩)
    | (go_at_call 7;refine (HWK.out _).mono ?_;rintro e w10 ⟨rfl,hb10⟩))
  go_ret
  exact ⟨rfl,HB8.out.trans (hb10.mono HB8.out.size)⟩
 ·rw [if_neg (fun h => by rw [hm] at h;cases h.2)]
  rw [hm] at g0 e0 HD ⊢
  have HM := Lib.hid hm
  clear HZ hm
  go_wp2_with (first
    | (go_at_call 10;refine HD.out.mono ?_;rintro e w8 ⟨rfl,hb8⟩;have hs8 := hb8.size;have HY8 := Lib.hid (HY7.out.below hb8 (by omega));have e0 : w8.cell? ⟨Y,0,none⟩ = some (.bool false) := (by rw [<- HM.out];exact HY8.out.1 0 (by omega));have e1 : w8.cell? ⟨Y,1,none⟩ = some (.int .i64 l.at_) := HY8.out.1 1 (by omega);have e2 : w8.cell? ⟨Y,2,none⟩ = some (.int .i64 l.used) := HY8.out.1 2 (by omega);have HB8 := Lib.hid (HB7.out.trans (hb8.mono (by omega)));clear hb8)
    | (go_at_call 11;refine (HNM.out _ _).mono ?_;rintro e w9 ⟨rfl,rfl⟩)
    | (go_at_call 7;refine (HWK.out _).mono ?_;rintro e w10 ⟨rfl,hb10⟩))
  go_ret
  exact ⟨rfl,HB8.out.trans (hb10.mono HB8.out.size)⟩
set_option maxRecDepth 400000 in
set_option maxHeartbeats 8000000 in
theorem lookRuns_out (k : Int) (p d : ByteArray) (a n : Int) (A : Option Addr) (m c : Nat) (F : Option Addr) (nf cf : Nat) (W : World) (h : ¬ (p.size <= 200 ∧ d.size <= 200 ∧ m <= 500) ∨ 300 < nf) :
  Calls Tryz.prog 6 #[opV k p d a n A m c,.slice F nf cf] W fun e W' => e = .returned (.bool true) ∧ Below W.heap.size W W' := by
 obtain ⟨W0,hW0⟩ : ∃ W0,W.alloc (.cells #[.int .i64 k,.string p,.string d,.int .i64 a,.int .i64 n,.slice A m c] 28) = W0 := ⟨_,rfl⟩
 have hb0 : Below W.heap.size W W0 := by rw [<- hW0];exact (Below.refl _ _).alloc (Nat.le_refl _) _
 have hs0 : W0.heap.size = W.heap.size + 1 := by rw [<- hW0];simp
 have hfw := few22_any k p d a n A m c W0
 have H : Hid (decide (p.size <= 200 ∧ d.size <= 200 ∧ m <= 500) = false ∨ (decide (p.size <= 200 ∧ d.size <= 200 ∧ m <= 500) = true ∧ decide ((300 : Int) < (nf : Int)) = true)) := by
  rw [Hid]
  by_cases h1 : p.size <= 200 ∧ d.size <= 200 ∧ m <= 500
  ·exact .inr ⟨decide_eq_true h1,decide_eq_true (by omega)⟩
  ·exact .inl (decide_eq_false h1)
 clear h
 generalize decide (p.size <= 200 ∧ d.size <= 200 ∧ m <= 500) = fb at *
 unfold opV at hfw ⊢
 have HFW := Lib.hid hfw
 have HB0 := Lib.hid hb0
 have HW0 := Lib.hid hW0
 have HK := Lib.hid works22_any
 clear hfw hb0 hW0
 rcases H.out with rfl | ⟨rfl,h2⟩
 all_goals
  go_enter Tryz.func6,Tryz.ntmps6
  go_wp2_with (go_at_call 12;rw [HW0.out];refine HFW.out.mono ?_;rintro e w1 ⟨rfl,hb1⟩)
  refine (HK.out _).mono ?_
  rintro e w2 ⟨rfl,hb2⟩
  go_wp2_with fail
  go_ret
  exact ⟨rfl,HB0.out.trans ((hb1.trans (hb2.mono hb1.size)).mono (by omega))⟩
theorem lookRuns_any (k : Int) (p d : ByteArray) (a n : Int) (A : Option Addr) (m c : Nat) (bs : List UInt8) (fed : List Nat) (F : Option Addr) (nf cf : Nat) (W : World)
  (hk : -9223372036854775808 <= k ∧ k < 9223372036854775808) (ha : a < 9223372036854775808) (hn : n < 9223372036854775808) (hl : bs.length = m) (hmc : m <= c) (hc : c <= maxLen) (hrow : RowAt W A (bs.map encB))
  (hfl : fed.length = nf) (_ : nf <= cf) (_ : cf <= maxLen) (hxf : ∀ x ∈ fed,x < 18446744073709551616) (hrF : RowAt W F (fed.map encW)) :
  Calls Tryz.prog 6 #[.agg #[.int .i64 k,.string p,.string d,.int .i64 a,.int .i64 n,.slice A m c],.slice F nf cf] W fun e W' => e = .returned (.bool true) ∧ Below W.heap.size W W' := by
 by_cases ho : ¬ (p.size <= 200 ∧ d.size <= 200 ∧ m <= 500) ∨ 300 < nf
 ·exact lookRuns_out k p d a n A m c F nf cf W ho
 ·have h1 : p.size <= 200 ∧ d.size <= 200 ∧ m <= 500 := Decidable.byContradiction fun h => ho (.inl h)
  have h2 : nf <= 300 := by omega
  refine lookRuns_in k p d a n A m c F nf cf (lookN k (bytesOf p) (bytesOf d) a n m fed).1 (lookN k (bytesOf p) (bytesOf d) a n m fed).2 W h1 h2 (fun hz => ?_) (fun W' hb => ?_) (fun W' hb => ?_)
  ·by_cases h3 : refuseN k (bytesOf p) (bytesOf d) a n m = 0
   ·by_cases h4 : fed.length <= 20000
    ·rw [lookN_fine h3 h4] at hz
     exact absurd rfl hz
    ·rw [lookN_long h3 (by omega)]
     exact ⟨rfl,rfl⟩
   ·rw [lookN_refused fed h3]
    exact ⟨rfl,rfl⟩
  ·exact lookRun_any k p d a n A m c bs W' hk (by omega) (by omega) hl (by omega) (hrow.below hb) ha hn hfl hxf (hrF.below hb)
  ·exact ref22_any k p d a n A m c W' (by omega) (by omega) ha hn hfl hxf (hrF.below hb)
end
end Go.Proofs.YtdpooagnbmpinaaGreatDoor
