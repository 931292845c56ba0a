/- The law WalkRuns as a call, at whatever arguments. Conditions: none. -/
import Derived.Test.YtdlblbhmeidhbaaGreatDoorZJ2a
import Derived.Test.YtdlblbhmeidhbaaGreatDoorZJ2b
import Derived.Test.YtdlblbhmeidhbaaGreatDoorZJ2c
import Derived.OpenShut
namespace Go.Proofs.YtdlblbhmeidhbaaGreatDoor
open Go.RowKit Go.ChangeShapes

theorem lruns_any (s : ByteArray) (fed : List Nat) (A : Option Addr) (n cA : Nat) (k : Int) (W : World) (_ : s.size < 140737488355328)
    (hn : fed.length = n) (hnc : n ≤ cA) (_ : cA ≤ maxLen) (hxf : ∀ x ∈ fed, x < 18446744073709551616) (hrow : RowAt W A (fed.map encW)) (hk : (Lit.int .i64 k).wf = true) :
    Calls Tryz.prog 4 #[.string s, .slice A n cA, .int .i64 k] W fun e W' => e = .returned (.bool true) ∧ Below W.heap.size W W' := by
  have hkb := bounds_i64 hk
  have hmx : maxLen = 9223372036854775807 := rfl
  by_cases ho : 300 < s.size ∨ 200 < n
  · exact lruns_out s A n cA k W ho
  · have h1 : s.size ≤ 300 := by omega
    have h2 : n ≤ 200 := by omega
    obtain ⟨b, a1, a2, a3, a4, a5, a6, a7, z, he⟩ := runP_cells (bytesOf s) fed
    have hln : (atsP (bytesOf s) fed).length ≤ 201 := by
      unfold atsP
      split
      · have := walked_most (readP (bytesOf s)).2 fed
        omega
      · simp
    obtain ⟨l, hl⟩ : ∃ l, atsP (bytesOf s) fed = l := ⟨_, rfl⟩
    rw [hl] at hln
    obtain ⟨q, hq⟩ : ∃ q : Nat, max 1 k = (q : Int) := ⟨(max 1 k).toNat, by omega⟩
    have hA : ∀ W, RowAt W A (fed.map encW) → Calls Tryz.prog 7 #[.string s, .slice A n cA] W fun e W' => e = .returned (.tuple #[agg8 (cellsB b a1 a2 a3 a4 a5 a6 a7), .int .i64 z]) ∧ Below W.heap.size W W' := fun W' hr => by
      have := run_any (cf := cA) s W' (by omega) hn (by omega) hxf hr
      rwa [he] at this
    have hB : ∀ W, RowAt W A (fed.map encW) → Calls Tryz.prog 8 #[.string s, .slice A n cA] W fun e W' => e = .returned (.tuple #[agg8 (cellsB b a1 a2 a3 a4 a5 a6 a7), .int .i64 z]) ∧ Below W.heap.size W W' := fun W' hr => by
      have := refRun_any (cf := cA) s W' (by omega) hn hxf hr
      rwa [he] at this
    have hC : ∀ W, RowAt W A (fed.map encW) → Calls Tryz.prog 11 #[.string s, .slice A n cA] W fun e W' => ∃ A c, e = .returned (.slice A l.length c) ∧ RowAt W' A (l.map encI) ∧ l.length ≤ c ∧ c ≤ maxLen ∧ (A = none ∨ ∃ b off, A = some ⟨b, off, none⟩) ∧ Below W.heap.size W W' := fun W' hr => by
      have := refAts_any (cf := cA) s W' (by omega) hn (by omega) hxf hr
      rwa [hl] at this
    have hE : ∀ W, RowAt W A (fed.map encW) → Calls Tryz.prog 10 #[.string s, .slice A n cA] W fun e W' => e = .returned (.bool (z == 0 && !b)) ∧ Below W.heap.size W W' := fun W' hr =>
      enough_any (cf := cA) s b a1 a2 a3 a4 a5 a6 a7 z W' (by omega) hn (by omega) hxf hr he
    have hX : ∀ W, RowAt W A (fed.map encW) → Calls Tryz.prog 13 #[.string s, .slice A n cA, .int .i64 300] W fun e W' => ∃ A c, e = .returned (.slice A l.length c) ∧ RowAt W' A ((l.take l.length).map encI) ∧ l.length ≤ c ∧ Below W.heap.size W W' := fun W' hr => by
      have h := lats_any (cf := cA) s 300 W' (by omega) (by omega) (by omega) hn (by omega) hxf hr (by rw [hl]; omega)
      rw [hl, List.take_of_length_le (by omega)] at h
      rw [List.take_length]
      exact h.mono fun _ _ ⟨A', c, h1, h2, h3, _, h5⟩ => ⟨A', c, h1, row_of_own h2, h3, h5⟩
    have hY : ∀ W, RowAt W A (fed.map encW) → Calls Tryz.prog 13 #[.string s, .slice A n cA, .int .i64 q] W fun e W' => ∃ A c, e = .returned (.slice A (min l.length q) c) ∧ RowAt W' A ((l.take (min l.length q)).map encI) ∧ min l.length q ≤ c ∧ Below W.heap.size W W' := fun W' hr => by
      have h := lats_any (cf := cA) s q W' (by omega) (by omega) (by omega) hn (by omega) hxf hr (by rw [hl]; omega)
      have e1 : l.take (min l.length q) = l.take q := by
        rcases Nat.le_total q l.length with hle | hle
        · rw [Nat.min_eq_right hle]
        · rw [Nat.min_eq_left hle, List.take_length, List.take_of_length_le hle]
      have e2 : (l.take q).length = min l.length q := by rw [List.length_take, Nat.min_comm]
      rw [hl] at h
      rw [e1]
      refine h.mono fun _ _ ⟨A', c, h1, h2, h3, _, h5⟩ => ⟨A', c, ?_, row_of_own h2, by rw [← e2]; exact h3, h5⟩
      rw [← e2]
      exact h1
    by_cases hz : z = 0
    · subst hz
      cases b
      · exact lruns_b s A fed l n cA l.length q _ k false a1 a2 a3 a4 a5 a6 a7 0 W h1 h2 ⟨rfl, rfl⟩ hrow rfl hln hq rfl hA hB hC hE hX hY
      · exact lruns_a s A fed l n cA l.length q _ k true a1 a2 a3 a4 a5 a6 a7 0 W h1 h2 ⟨rfl, rfl⟩ hrow rfl hln hq rfl hA hB hC hE hX hY
    · exact lruns_c s A fed l n cA l.length q _ k b a1 a2 a3 a4 a5 a6 a7 z W h1 h2 (by rw [beq_eq_false_iff_ne]; exact hz) hrow rfl hln hq rfl hA hB hC hE hX hY
end Go.Proofs.YtdlblbhmeidhbaaGreatDoor
