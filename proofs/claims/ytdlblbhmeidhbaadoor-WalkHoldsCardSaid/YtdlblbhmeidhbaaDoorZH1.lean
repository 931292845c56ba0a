/- The law WalkHolds as a call, where the path is one. Conditions: none. -/
import Derived.Test.YtdlblbhmeidhbaaDoorZH0
import Derived.Test.YtdlblbhmeidhbaaDoorZKB
namespace Go.Proofs.YtdlblbhmeidhbaaDoor
open Go.RowKit

theorem cellsB_new (W : World) (b : Bool) (p u e l k n t : Int) (T : TypeId) : CellsAt (W.alloc (.cells #[.bool b, .int .i64 p, .int .i64 u, .int .i64 e, .int .i64 l, .int .i64 k, .int .i64 n, .int .i64 t] T)) W.heap.size 8 (cellsB b p u e l k n t) :=
  cellsAt_new _ _ _ _ _ fun i hi => match i, hi with | 0, _ => rfl | 1, _ => rfl | 2, _ => rfl | 3, _ => rfl | 4, _ => rfl | 5, _ => rfl | 6, _ => rfl | 7, _ => rfl
/-- The eight cells, one by one. -/
theorem CellsAt.eight {W : World} {X : Nat} {b : Bool} {p u e l k n t : Int} (h : CellsAt W X 8 (cellsB b p u e l k n t)) :
    W.cell? ⟨X, 0, none⟩ = some (.bool b) ∧ W.cell? ⟨X, 1, none⟩ = some (.int .i64 p) ∧ W.cell? ⟨X, 2, none⟩ = some (.int .i64 u) ∧ W.cell? ⟨X, 3, none⟩ = some (.int .i64 e) ∧
    W.cell? ⟨X, 4, none⟩ = some (.int .i64 l) ∧ W.cell? ⟨X, 5, none⟩ = some (.int .i64 k) ∧ W.cell? ⟨X, 6, none⟩ = some (.int .i64 n) ∧ W.cell? ⟨X, 7, none⟩ = some (.int .i64 t) :=
  ⟨h.1 0 (by omega), h.1 1 (by omega), h.1 2 (by omega), h.1 3 (by omega), h.1 4 (by omega), h.1 5 (by omega), h.1 6 (by omega), h.1 7 (by omega)⟩
theorem row_cell {W : World} {b off : Nat} {l : List Nat} {j x : Nat} (h : RowAt W (some ⟨b, off, none⟩) (l.map encI)) (hx : l[j]? = some x) : W.cell? ⟨b, off + j, none⟩ = some (.int .i64 (x : Nat)) := by
  obtain ⟨b', off', e, _, hc⟩ := h.get (k := j) (u := encI x) (by rw [List.getElem?_map, hx]; rfl)
  cases e
  exact hc
set_option maxRecDepth 400000 in
set_option maxHeartbeats 3000000 in
theorem lholds_yes (s : ByteArray) (A B : Option Addr) (fed more xs ys : List Nat) (n m cA cB nx ny : Nat) (b c : Bool) (a1 a2 a3 a4 a5 a6 a7 c1 c2 c3 c4 c5 c6 c7 : Int) (W : World) (hs : s.size ≤ 300) (hn : fed.length = n) (hm : more.length = m) (hn1 : n ≤ 100) (hm1 : m ≤ 100)
    (hrA : RowAt W A (fed.map encW)) (hrB : RowAt W B (more.map encW))
    (hA : ∀ W, RowAt W A (fed.map encW) → Calls Tryd.prog 5 #[.string s, .slice A n cA] W fun e W' => e = .returned (.tuple #[agg8 (cellsB b a1 a2 a3 a4 a5 a6 a7), .int .i64 0]) ∧ Below W.heap.size W W')
    (hB : ∀ C k W, RowAt W C ((fed ++ more).map encW) → Calls Tryd.prog 5 #[.string s, .slice C (n + m) k] W fun e W' => e = .returned (.tuple #[agg8 (cellsB c c1 c2 c3 c4 c5 c6 c7), .int .i64 0]) ∧ Below W.heap.size W W')
    (hX : ∀ W, RowAt W A (fed.map encW) → Calls Tryd.prog 7 #[.string s, .slice A n cA, .int .i64 (300 : Nat)] W (LatsPost xs W))
    (hY : ∀ C k W, RowAt W C ((fed ++ more).map encW) → Calls Tryd.prog 7 #[.string s, .slice C (n + m) k, .int .i64 (300 : Nat)] W (LatsPost ys W))
    (hx : xs.length = nx) (hy : ys.length = ny) (hnx0 : 0 < nx) (hnx : nx ≤ 300) (hny : ny ≤ 300) (hp : xs <+: ys) (hl : Later n xs b c a1 a2 a3 a4 a5 a6 a7 c1 c2 c3 c4 c5 c6 c7) :
    Calls Tryd.prog 3 #[.string s, .slice A n cA, .slice B m cB] W fun e W' => e = .returned (.bool true) ∧ Below W.heap.size W W' := by
  obtain ⟨i0, hi, hz0, hz1, hz2⟩ := info_parts Tryd.infoU64
  have HK := Lib.hid works_any
  have h300 : decide ((300 : Int) < (s.size : Int)) = false := by simp; omega
  have h100 : decide ((100 : Int) < (n : Int)) = false := by simp; omega
  have h100' : decide ((100 : Int) < (m : Int)) = false := by simp; omega
  have hxy : nx ≤ ny := by have := hp.length_le; omega
  have hlt : decide ((ny : Int) < (nx : Int)) = false := by simp; omega
  have HNX := Lib.hid hx
  have HNY := Lib.hid hy
  have HP : Hid (ys.take nx = xs) := by rw [Hid, ← hx]; exact (List.prefix_iff_eq_take.1 hp).symm
  unfold agg8 cellsB cellsW at hA hB
  have HA := Lib.hid hA
  have HB := Lib.hid hB
  have HX := Lib.hid hX
  have HY := Lib.hid hY
  have HRA := Lib.hid hrA
  have HRB := Lib.hid hrB
  have HN := Lib.hid (show (fed.map encW).length = n by rw [List.length_map, hn])
  have HM := Lib.hid (show (more.map encW).length = m by rw [List.length_map, hm])
  have H1 : Hid (∀ l : List Nat, ∀ u ∈ l.map encW, u.oneCell' = true) := fun l u hu => by
    obtain ⟨x, _, rfl⟩ := List.mem_map.1 hu; rfl
  clear hrA hrB hA hB hX hY hn hm hx hy hp
  have HL := Lib.hid hl
  clear hl
  go_enter Tryd.func3, Tryd.ntmps3
  go_wp2_with fail
  refine (HA.out _ HRA.out).mono ?_
  rintro e w1 ⟨rfl, hb1⟩
  have HB1 := Lib.hid hb1
  have hs1 := hb1.size
  clear hb1
  have HCA := Lib.hid (cellsB_new w1 b a1 a2 a3 a4 a5 a6 a7 29)
  have HB2 := Lib.hid (HB1.out.alloc hs1 (.cells #[.bool b, .int .i64 a1, .int .i64 a2, .int .i64 a3, .int .i64 a4, .int .i64 a5, .int .i64 a6, .int .i64 a7] 29))
  have hs2 : W.heap.size ≤ w1.heap.size + 1 := by omega
  have HRA2 := Lib.hid (HRA.out.below HB2.out)
  go_wp2_with (at_builtin; refine wpList_append_row _ (by rfl) (.tmp 34) (.tmp 35) 22 rfl (w1.heap.size + 1) 38 i0 (.int .u64 0) 8 Tryd.underlyingU64s hi hz0 hz1 hz2 rfl _ 0 [] rfl (ownsRow_empty1 w1 _ _ _ _ (Nat.le_refl _)) A n cA (fed.map encW) rfl HN.out (HRA2.out.alloc _) (H1.out fed) ?c1 ?c2 ?c3 ?_)
  case c1 => unfold maxLen; omega
  case c2 => omega
  case c3 => simp
  intro v1 w3 hown1 hg1
  have HB3 : Hid (Below (w1.heap.size + 1) (w1.alloc (.cells #[.bool b, .int .i64 a1, .int .i64 a2, .int .i64 a3, .int .i64 a4, .int .i64 a5, .int .i64 a6, .int .i64 a7] 29)) w3) := ((Below.refl _ _).alloc (by simp) _).grown hg1 (by simp) (fun r e => by cases e; simp)
  have hs3 : w1.heap.size + 1 ≤ w3.heap.size := by have := HB3.out.size; simp at this; omega
  have HO1 := Lib.hid hown1
  have HLT1 := Lib.hid hown1.lt
  have HRB3 : Hid (RowAt w3 B (more.map encW)) := (HRB.out.below HB2.out).below (HB3.out.mono (by simp))
  clear hown1 hg1
  go_wp2_with (at_builtin; refine wpList_append_row _ (by rfl) (.tmp 36) (.tmp 37) 22 rfl (w1.heap.size + 1) 38 i0 (.int .u64 0) 8 Tryd.underlyingU64s hi hz0 hz1 hz2 rfl _ _ _ rfl HO1.out B m cB (more.map encW) rfl HM.out HRB3.out (H1.out more) ?c1 ?c2 ?c3 ?_)
  case c1 => unfold maxLen; omega
  case c2 => omega
  case c3 => omega
  intro v2 w4 hown2 hg2
  have HB4 : Hid (Below (w1.heap.size + 1) (w1.alloc (.cells #[.bool b, .int .i64 a1, .int .i64 a2, .int .i64 a3, .int .i64 a4, .int .i64 a5, .int .i64 a6, .int .i64 a7] 29)) w4) := HB3.out.grown hg2 (by omega) (fun r e => (HLT1.out r e).1)
  have hs4 : w1.heap.size + 1 ≤ w4.heap.size := by have := HB4.out.size; simp at this; omega
  have HCA4 := Lib.hid (HCA.out.below HB4.out (by omega))
  have HBW4 := Lib.hid (HB2.out.trans (HB4.out.mono hs2))
  have hown3 : w4.ownsRow (w1.heap.size + 1) 38 1 v2 (n + m) ((fed ++ more).map encW) := by rw [List.map_append]; exact hown2
  clear hown2 hg2 HB3 HO1 HLT1 HRB3 HRA2 HCA HB4
  obtain ⟨A3, k3, rfl, hc3, hcm3⟩ := owns_slice hown3
  have HR3 := Lib.hid (row_of_own hown3)
  clear hown3
  go_wp2_with fail
  refine (HB.out _ _ _ HR3.out).mono ?_
  rintro e w5 ⟨rfl, hb5⟩
  have HB5 := Lib.hid (HBW4.out.trans (hb5.mono (by omega)))
  have HCA5 := Lib.hid (HCA4.out.below hb5 (by omega))
  have HR5 := Lib.hid (HR3.out.below hb5)
  have hs5 := hb5.size
  clear hb5
  have HCB := Lib.hid (cellsB_new w5 c c1 c2 c3 c4 c5 c6 c7 29)
  have hb6 := (Below.refl w5.heap.size w5).alloc (Nat.le_refl _) (.cells #[.bool c, .int .i64 c1, .int .i64 c2, .int .i64 c3, .int .i64 c4, .int .i64 c5, .int .i64 c6, .int .i64 c7] 29)
  have HB6 := Lib.hid (HB5.out.trans (hb6.mono (by omega)))
  have HCA6 := Lib.hid (HCA5.out.below hb6 (by omega))
  have HR6 := Lib.hid (HR5.out.below hb6)
  have HRA6 := Lib.hid (HRA.out.below HB6.out)
  clear hb6
  go_wp2_with (go_at_call 6; refine (num_any _ _).mono ?_; rintro e w9 ⟨rfl, rfl⟩)
  refine (HX.out _ HRA6.out).mono ?_
  rintro e w6 ⟨X, kx, rfl, hxo, hkx, hkx', hb6⟩
  rw [HNX.out] at hxo hkx ⊢
  have hs6 : w5.heap.size + 1 ≤ w6.heap.size := by have := hb6.size; simp at this; omega
  have HCB7 := Lib.hid (HCB.out.below hb6 (by simp))
  have HCA7 := Lib.hid (HCA6.out.below hb6 (by simp; omega))
  have HR7 := Lib.hid (HR6.out.below hb6)
  have HB7 := Lib.hid (HB6.out.trans (hb6.mono (by simp; omega)))
  have HX7 := Lib.hid (row_of_own hxo)
  clear hb6 hxo HCB HCA6 HR6 HB6 HRA6
  go_wp2_with fail
  refine (HY.out _ _ _ HR7.out).mono ?_
  rintro e w7 ⟨Y, ky, rfl, hyo, hky, hky', hb7⟩
  rw [HNY.out] at hyo hky ⊢
  have hs7 : w5.heap.size + 1 ≤ w7.heap.size := by have := hb7.size; omega
  have HCB8 := Lib.hid (HCB7.out.below hb7 (by omega))
  have HCA8 := Lib.hid (HCA7.out.below hb7 (by omega))
  have HB8 := Lib.hid (HB7.out.trans (hb7.mono (by omega)))
  have HX8 := Lib.hid (HX7.out.below hb7)
  have HY8 := Lib.hid (row_of_own hyo)
  clear hb7 hyo HCB7 HCA7 HR7 HB7 HX7
  obtain ⟨by_, oy, rfl, hby, _⟩ := HY8.out (by rw [List.length_map, HNY.out]; omega)
  obtain ⟨bx, ox, rfl, hbx, _⟩ := HX8.out (by rw [List.length_map, HNX.out]; omega)
  go_wp2_with (first
    | (go_at_call 6; refine (num_any _ _).mono ?_; rintro e w9 ⟨rfl, rfl⟩)
    | fail)
  have HI : Hid (Calls Tryd.prog 8 #[.slice (some ⟨by_, oy, none⟩) nx ky, .slice (some ⟨bx, ox, none⟩) nx kx] w7 fun e W' => e = .returned (.bool true) ∧ Below w7.heap.size w7 W') := by
    have h := ints_any (ys.take nx) xs (some ⟨by_, oy, none⟩) (some ⟨bx, ox, none⟩) nx nx ky kx w7 (by rw [List.length_take, HNY.out]; omega) HNX.out (by omega) (by omega) (by omega) (by omega) (by rw [List.map_take]; exact HY8.out.take nx) HX8.out
    rw [show decide (ys.take nx = xs) = true from decide_eq_true HP.out] at h
    exact h
  refine HI.out.mono ?_
  rintro e w8 ⟨rfl, hb9⟩
  have hs8 : w5.heap.size + 1 ≤ w8.heap.size := by have := hb9.size; omega
  have HCB9 := Lib.hid (HCB8.out.below hb9 (by omega))
  have HCA9 := Lib.hid (HCA8.out.below hb9 (by omega))
  have HB9 := Lib.hid (HB8.out.trans (hb9.mono (by omega)))
  have HX9 := Lib.hid (HX8.out.below hb9)
  clear hb9 HCB8 HCA8 HB8 HX8 HY8 HI
  obtain ⟨p0, p1, p2, p3, p4, p5, p6, p7⟩ := HCA9.out.eight
  obtain ⟨q0, q1, q2, q3, q4, q5, q6, q7⟩ := HCB9.out.eight
  rcases HL.out with ⟨r0, r1, r2, r3, r4, r5, r6, r7, r8, r9⟩ | ⟨r0, r1, r2, q, r3, r4⟩ | ⟨r0, r1, r2, r3, q, r4, r5⟩
  · have e1 : (c1 == a1) = true := beq_iff_eq.2 r2
    have e2 : (c2 == a2) = true := beq_iff_eq.2 r3
    have e3 : (c3 == a3) = true := beq_iff_eq.2 r4
    have e4 : (c4 == a4) = true := beq_iff_eq.2 r5
    have e5 : (c5 == a5) = true := beq_iff_eq.2 r6
    have e6 : (c6 == a6) = true := beq_iff_eq.2 r7
    have e7 : (c7 == a7) = true := beq_iff_eq.2 r8
    have e8 : ((nx : Int) == a2) = true := beq_iff_eq.2 (by rw [r9, HNX.out])
    clear r2 r3 r4 r5 r6 r7 r8 r9
    go_wp2_with (go_at_call 6; refine (num_any _ _).mono ?_; rintro e w9 ⟨rfl, rfl⟩)
    refine (HK.out _).mono ?_
    rintro e w9 ⟨rfl, hb9⟩
    go_wp2_with fail
    go_ret
    exact ⟨rfl, HB9.out.trans (hb9.mono (by omega))⟩
  · have e1 : ((nx : Int) == (n : Int) + 1) = true := beq_iff_eq.2 (by have := HNX.out; omega)
    have e2 : ((q : Int) == a1) = true := beq_iff_eq.2 r3.symm
    have hxc := row_cell HX9.out r4
    have hni : (n : Int) < (nx : Int) := by have := HNX.out; omega
    have hn0 : (0 : Int) ≤ (n : Int) := by omega
    have hw1 : IntKind.i64.wrap ((n : Int) + 1) = (n : Int) + 1 := IntWalk.i64_in _ (by omega)
    clear r3 r4 r2
    go_wp2_with (go_at_call 6; refine (num_any _ _).mono ?_; rintro e w9 ⟨rfl, rfl⟩)
    refine box_tail 28 (by kernel_rfl) (by kernel_rfl) ?_
    simp only [List.take_succ_cons, List.take_zero, List.drop_succ_cons, List.drop_zero]
    iterate 28
      refine box_step (fun K hK => ?_)
      go_simp
      refine hK _ ?_
      clear hK K
    refine ⟨wpStill_nil ?_⟩
    go_wp2_with fail
    refine (HK.out _).mono ?_
    rintro e w10 ⟨rfl, hb10⟩
    go_wp2_with fail
    go_ret
    exact ⟨rfl, HB9.out.drew.trans (hb10.mono (by simp; omega))⟩
  · have e1 : ((nx : Int) == (n : Int) + 1) = true := beq_iff_eq.2 (by have := HNX.out; omega)
    have e2 : ((q : Int) == a1) = true := beq_iff_eq.2 r4.symm
    have hxc := row_cell HX9.out r5
    have hni : (n : Int) < (nx : Int) := by have := HNX.out; omega
    have hn0 : (0 : Int) ≤ (n : Int) := by omega
    have hw1 : IntKind.i64.wrap ((n : Int) + 1) = (n : Int) + 1 := IntWalk.i64_in _ (by omega)
    have e3 : decide ((n : Int) < c2) = true := by simp; exact r3
    clear r3
    clear r4 r5 r2
    go_wp2_with (go_at_call 6; refine (num_any _ _).mono ?_; rintro e w9 ⟨rfl, rfl⟩)
    refine box_tail 28 (by kernel_rfl) (by kernel_rfl) ?_
    simp only [List.take_succ_cons, List.take_zero, List.drop_succ_cons, List.drop_zero]
    iterate 28
      refine box_step (fun K hK => ?_)
      go_simp
      refine hK _ ?_
      clear hK K
    refine ⟨wpStill_nil ?_⟩
    go_wp2_with fail
    refine (HK.out _).mono ?_
    rintro e w10 ⟨rfl, hb10⟩
    go_wp2_with fail
    go_ret
    exact ⟨rfl, HB9.out.drew.trans (hb10.mono (by simp; omega))⟩
end Go.Proofs.YtdlblbhmeidhbaaDoor
