/- The contract of Enough. Conditions: none. -/
import Derived.Test.YtdlblbhmeidhbaaGreatDoorZI9
namespace Go.Proofs.YtdlblbhmeidhbaaGreatDoor
open Go.RowKit

variable {FA : Option Addr} {nf cf : Nat} {fed : List Nat}
theorem runP_cells (s : List UInt8) (fed : List Nat) : ∃ b a1 a2 a3 a4 a5 a6 a7 z, runP s fed = (cellsB b a1 a2 a3 a4 a5 a6 a7, z) := by
  unfold runP
  split
  · obtain ⟨b, a1, a2, a3, a4, a5, a6, a7, h⟩ := runF_cells (walkedP fed (readP s).2)
    exact ⟨b, a1, a2, a3, a4, a5, a6, a7, 0, by rw [h]⟩
  · exact ⟨_, _, _, _, _, _, _, _, _, rfl⟩
set_option maxRecDepth 100000 in
set_option maxHeartbeats 2000000 in
theorem enough_any (s : ByteArray) (b : Bool) (a1 a2 a3 a4 a5 a6 a7 z : Int) (W : World) (hs : s.size < 4294967281) (hfl : fed.length = nf) (hnf : nf ≤ maxLen) (hx64 : ∀ x ∈ fed, x < 18446744073709551616) (hrow : RowAt W FA (fed.map encW))
    (hr : runP (bytesOf s) fed = (cellsB b a1 a2 a3 a4 a5 a6 a7, z)) :
    Calls Tryz.prog 10 #[.string s, .slice FA nf cf] W fun e W' => e = .returned (.bool (z == 0 && !b)) ∧ Below W.heap.size W W' := by
  have hrn := run_any (cf := cf) s W hs hfl hnf hx64 hrow
  rw [hr] at hrn
  unfold agg8 cellsB cellsW at hrn
  have HRN := Lib.hid hrn
  have HZ : Hid (((z == 0) = true ∧ b = true) ∨ ((z == 0) = true ∧ b = false) ∨ (z == 0) = false) := by
    cases z == 0 <;> cases b <;> simp [Hid]
  clear hrn hrow hx64 hfl hr
  rcases HZ.out with ⟨h1, rfl⟩ | ⟨h1, rfl⟩ | h1
  all_goals
    go_enter Tryz.func10, Tryz.ntmps10
    go_wp2_with fail
    refine HRN.out.mono ?_
    rintro e w1 ⟨rfl, hb1⟩
    have HB := fun b : Bool => Lib.hid (hb1.alloc hb1.size (.cells #[.bool b, .int .i64 a1, .int .i64 a2, .int .i64 a3, .int .i64 a4, .int .i64 a5, .int .i64 a6, .int .i64 a7] 30))
    have HB2 := Lib.hid HB
    clear HB hb1
    go_wp2_with fail
    go_ret
    rw [h1]
    exact ⟨rfl, (HB2.out _).out⟩
end Go.Proofs.YtdlblbhmeidhbaaGreatDoor
