/- The law WalkRuns as a call. Conditions: none. -/
import Derived.Test.YtdlblbhmeidhbaaGreatDoorZJ0
namespace Go.Proofs.YtdlblbhmeidhbaaGreatDoor
open Go.RowKit

set_option maxRecDepth 400000 in
set_option maxHeartbeats 2000000 in
theorem lruns_out (s : ByteArray) (A : Option Addr) (n cA : Nat) (k : Int) (W : World) (h : 300 < s.size ∨ 200 < n) :
    Calls Tryz.prog 4 #[.string s, .slice A n cA, .int .i64 k] W fun e W' => e = .returned (.bool true) ∧ Below W.heap.size W W' := by
  have HK := Lib.hid works_any
  have H : Hid (decide ((300 : Int) < (s.size : Int)) = true ∨ (decide ((300 : Int) < (s.size : Int)) = false ∧ decide ((200 : Int) < (n : Int)) = true)) := by
    rw [Hid]
    by_cases h1 : 300 < s.size
    · exact .inl (by simp; omega)
    · exact .inr ⟨by simp; omega, by simp; omega⟩
  clear h
  rcases H.out with h | ⟨h, h'⟩
  all_goals
    go_enter Tryz.func4, Tryz.ntmps4
    go_wp2_with fail
    refine (HK.out _).mono ?_
    rintro e w1 ⟨rfl, hb1⟩
    go_wp2_with fail
    go_ret
    exact ⟨rfl, hb1⟩
end Go.Proofs.YtdlblbhmeidhbaaGreatDoor
