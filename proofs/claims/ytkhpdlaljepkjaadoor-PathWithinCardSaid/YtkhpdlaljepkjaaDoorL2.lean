/- The laws PathWithin and PathParents as calls. Conditions: none. -/
import Derived.Test.YtkhpdlaljepkjaaDoorL1
namespace Go.Proofs.YtkhpdlaljepkjaaDoor
open Go.RowKit Go.Shelf
attribute [local go_sem] Oper.semAt_some

set_option maxRecDepth 100000 in
set_option maxHeartbeats 1000000 in
theorem law_within (s t : ByteArray) (w : World) (hs : s.size < 140737488355328) (ht : t.size < 140737488355328) :
    Calls Tryd.prog 4 #[.string s, .string t] w fun e w' => e = .returned (.bool true) ∧ Below w.heap.size w w' := by
  have HWK := Lib.hid works_any
  by_cases h1 : 300 < s.size
  · go_enter Tryd.func4, Tryd.ntmps4
    go_wp2_with fail
    refine (HWK.out _).mono ?_
    rintro e w' ⟨rfl, hb⟩
    go_wp2_with fail
    go_ret
    exact ⟨rfl, hb⟩
  · by_cases h2 : 300 < t.size
    · go_enter Tryd.func4, Tryd.ntmps4
      go_wp2_with fail
      refine (HWK.out _).mono ?_
      rintro e w' ⟨rfl, hb⟩
      go_wp2_with fail
      go_ret
      exact ⟨rfl, hb⟩
    · have HW := Lib.hid (fun W => within_any s t W (by omega) (by omega))
      have HRW := Lib.hid (fun W => refwithin_any s t W (by omega) (by omega))
      unfold WithinPost at HW HRW
      generalize withinP (bytesOf s) (bytesOf t) = r at *
      obtain ⟨b, z⟩ := r
      simp only at HW HRW
      go_enter Tryd.func4, Tryd.ntmps4
      go_wp2_with fail
      refine (HW.out _).mono ?_
      rintro e w1 ⟨rfl, hb1⟩
      go_wp2_with fail
      refine (HRW.out _).mono ?_
      rintro e w2 ⟨rfl, hb2⟩
      have HB2 := Lib.hid (below_trans hb1 hb2)
      clear hb1 hb2
      go_wp2_with (go_at_call 15; refine (num_any _ _).mono ?_; rintro e w2 ⟨rfl, rfl⟩)
      refine (HWK.out _).mono ?_
      rintro e w3 ⟨rfl, hb3⟩
      go_wp2_with fail
      go_ret
      exact ⟨rfl, below_trans HB2.out hb3⟩
end Go.Proofs.YtkhpdlaljepkjaaDoor
