/- The law WalkHolds as a call: plain facts, and the walk. Conditions: none. -/
import Derived.Test.YtdlblbhmeidhbaaGreatDoorZGX
import Derived.Test.YtdlblbhmeidhbaaGreatDoorZGY
namespace Go.Proofs.YtdlblbhmeidhbaaGreatDoor
open Go.RowKit

/-- A walk's cells. -/
def cellsB (b : Bool) (p u e l k n t : Int) : Nat → Value := cellsW (.bool b) (.int .i64 p) (.int .i64 u) (.int .i64 e) (.int .i64 l) (.int .i64 k) (.int .i64 n) (.int .i64 t)
theorem cellsB_new (W : World) (b : Bool) (p u e l k n t : Int) (T : TypeId) : CellsAt (W.alloc (.cells #[.bool b, .int .i64 p, .int .i64 u, .int .i64 e, .int .i64 l, .int .i64 k, .int .i64 n, .int .i64 t] T)) W.heap.size 8 (cellsB b p u e l k n t) :=
  cellsAt_new _ _ _ _ _ fun i hi => match i, hi with | 0, _ => rfl | 1, _ => rfl | 2, _ => rfl | 3, _ => rfl | 4, _ => rfl | 5, _ => rfl | 6, _ => rfl | 7, _ => rfl
/-- The eight cells, one by one. -/
theorem CellsAt.eight {W : World} {X : Nat} {b : Bool} {p u e l k n t : Int} (h : CellsAt W X 8 (cellsB b p u e l k n t)) :
    W.cell? ⟨X, 0, none⟩ = some (.bool b) ∧ W.cell? ⟨X, 1, none⟩ = some (.int .i64 p) ∧ W.cell? ⟨X, 2, none⟩ = some (.int .i64 u) ∧ W.cell? ⟨X, 3, none⟩ = some (.int .i64 e) ∧
    W.cell? ⟨X, 4, none⟩ = some (.int .i64 l) ∧ W.cell? ⟨X, 5, none⟩ = some (.int .i64 k) ∧ W.cell? ⟨X, 6, none⟩ = some (.int .i64 n) ∧ W.cell? ⟨X, 7, none⟩ = some (.int .i64 t) :=
  ⟨h.1 0 (by omega), h.1 1 (by omega), h.1 2 (by omega), h.1 3 (by omega), h.1 4 (by omega), h.1 5 (by omega), h.1 6 (by omega), h.1 7 (by omega)⟩
theorem row_cell {W : World} {b off : Nat} {l : List Nat} {j x : Nat} (h : RowAt W (some ⟨b, off, none⟩) (l.map encI)) (hx : l[j]? = some x) : W.cell? ⟨b, off + j, none⟩ = some (.int .i64 (x : Nat)) := by
  obtain ⟨b', off', e, _, hc⟩ := h.get (k := j) (u := encI x) (by rw [List.getElem?_map, hx]; rfl)
  cases e
  exact hc
theorem runF_cells (r : Res (Nat × Nat × Nat × Nat)) : ∃ b p u e l k n t, runF r = cellsB b p u e l k n t := by
  cases r with
  | val t l => exact ⟨_, _, _, _, _, _, _, _, rfl⟩
  | stop o l => cases o <;> exact ⟨_, _, _, _, _, _, _, _, rfl⟩
theorem begunN_small (s : List UInt8) {n : Nat} (h : n ≤ 20000) : begunN s n = (readP s).1 := by
  unfold begunN
  by_cases h0 : (readP s).1 = 0
  · rw [if_pos h0, if_neg (by omega), h0]
  · rw [if_neg h0]
theorem runP_no {s : List UInt8} {fed : List Nat} (h : fed.length ≤ 20000) (hz : (readP s).1 ≠ 0) : runP s fed = (zeroW, (readP s).1) := by
  unfold runP
  rw [begunN_small s h, if_neg hz]
theorem runP_yes {s : List UInt8} {fed : List Nat} (h : fed.length ≤ 20000) (hz : (readP s).1 = 0) : runP s fed = (runF (walkedP fed (readP s).2), 0) := by
  unfold runP
  rw [begunN_small s h, if_pos hz]
theorem atsP_yes {s : List UInt8} {fed : List Nat} (h : fed.length ≤ 20000) (hz : (readP s).1 = 0) : atsP s fed = (walkedP fed (readP s).2).ats := by
  unfold atsP
  rw [begunN_small s h, if_pos hz]
theorem walked_pos (names : List (List UInt8)) (fed : List Nat) : 0 < (walkedP fed names).ats.length := by
  have h := (Good.load 1).ext fed []
  show 0 < (walkF names fed []).ats.length
  unfold walkF
  cases hr : loadP fed 1 [] with
  | val x l =>
    obtain ⟨h1, _⟩ := loadP_val hr
    have h2 := ((Good.some x).bind fun line => (Good.enter line).bind fun n => Good.walkL names line n).ext fed l
    have h3 := h2.length_le
    exact Nat.lt_of_lt_of_le (by rw [h1]; simp) h3
  | stop o l =>
    unfold loadP at hr
    split at hr
    · cases hr
    · cases hr
      show 0 < ([] ++ [1] : List Nat).length
      simp
/-- What comes of two walks, the second one with words behind. -/
def Later (nf : Nat) (xs : List Nat) (b c : Bool) (a1 a2 a3 a4 a5 a6 a7 c1 c2 c3 c4 c5 c6 c7 : Int) : Prop :=
  (b = false ∧ c = false ∧ c1 = a1 ∧ c2 = a2 ∧ c3 = a3 ∧ c4 = a4 ∧ c5 = a5 ∧ c6 = a6 ∧ c7 = a7 ∧ a2 = xs.length) ∨
  (b = true ∧ c = true ∧ xs.length = nf + 1 ∧ ∃ q : Nat, a1 = q ∧ xs[nf]? = some q) ∨
  (b = true ∧ c = false ∧ xs.length = nf + 1 ∧ (nf : Int) < c2 ∧ ∃ q : Nat, a1 = q ∧ xs[nf]? = some q)
theorem later_of {s : List UInt8} {fed more : List Nat} (h : (fed ++ more).length ≤ 20000) (hz : (readP s).1 = 0) :
    ∃ b c a1 a2 a3 a4 a5 a6 a7 c1 c2 c3 c4 c5 c6 c7, runP s fed = (cellsB b a1 a2 a3 a4 a5 a6 a7, 0) ∧ runP s (fed ++ more) = (cellsB c c1 c2 c3 c4 c5 c6 c7, 0) ∧ atsP s fed <+: atsP s (fed ++ more) ∧
      Later fed.length (atsP s fed) b c a1 a2 a3 a4 a5 a6 a7 c1 c2 c3 c4 c5 c6 c7 := by
  have hf : fed.length ≤ 20000 := by rw [List.length_append] at h; omega
  rw [runP_yes h hz, runP_yes hf hz, atsP_yes h hz, atsP_yes hf hz]
  have hs := walked_steady (readP s).2 fed more
  unfold Steady at hs
  cases hr : walkedP fed (readP s).2 with
  | val t l =>
    rw [hr] at hs
    simp only at hs
    rw [hs]
    exact ⟨_, _, _, _, _, _, _, _, _, _, _, _, _, _, _, _, rfl, rfl, List.prefix_refl _, .inl ⟨rfl, rfl, rfl, rfl, rfl, rfl, rfl, rfl, rfl, rfl⟩⟩
  | stop o l =>
    rw [hr] at hs
    cases o with
    | err e =>
      simp only at hs
      rw [hs]
      exact ⟨_, _, _, _, _, _, _, _, _, _, _, _, _, _, _, _, rfl, rfl, List.prefix_refl _, .inl ⟨rfl, rfl, rfl, rfl, rfl, rfl, rfl, rfl, rfl, rfl⟩⟩
    | need q =>
      obtain ⟨h1, h2, h3⟩ := hs
      cases hr' : walkedP (fed ++ more) (readP s).2 with
      | val t l' =>
        rw [hr'] at h3
        have := h3.length_le
        refine ⟨_, _, _, _, _, _, _, _, _, _, _, _, _, _, _, _, rfl, rfl, h3, .inr (.inr ⟨rfl, rfl, h1, ?_, q, rfl, h2⟩)⟩
        change l.length ≤ l'.length at this
        omega
      | stop o' l' =>
        rw [hr'] at h3
        have := h3.length_le
        cases o' with
        | err e =>
          refine ⟨_, _, _, _, _, _, _, _, _, _, _, _, _, _, _, _, rfl, rfl, h3, .inr (.inr ⟨rfl, rfl, h1, ?_, q, rfl, h2⟩)⟩
          change l.length ≤ l'.length at this
          omega
        | need q' => exact ⟨_, _, _, _, _, _, _, _, _, _, _, _, _, _, _, _, rfl, rfl, h3, .inr (.inl ⟨rfl, rfl, h1, q, rfl, h2⟩)⟩
end Go.Proofs.YtdlblbhmeidhbaaGreatDoor
