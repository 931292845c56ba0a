/- The contracts of path.first and path.right. Conditions: none. -/
import Derived.Test.YtibpagmpdgflmaaGreatDoorZB2
import Derived.Test.YtibpagmpdgflmaaGreatDoorZK7
namespace Go.Proofs.YtibpagmpdgflmaaGreatDoor
open Go.RowKit

def rightS (s : ByteArray) : Bool := rightB s.data.toList

set_option maxRecDepth 100000 in
set_option maxHeartbeats 1000000 in
theorem first_any (xs : List ByteArray) (A : Option Addr) (n c : Nat) (w : World) (hn : xs.length = n) (hm : n ≤ maxLen) (hs : ∀ s ∈ xs, s.size ≤ maxLen) (h : RowAt w A (xs.map .string)) :
    Calls Tryz.prog 213 #[.func (.func 202) #[] #[], .slice A n c] w fun e w' => e = .returned (.int .i64 (errB (xs.all rightS))) ∧ Below w.heap.size w w' := by
  unfold maxLen at hm
  have HN := Lib.hid hn
  have HS := Lib.hid hs
  have HR := Lib.hid h
  clear hn hs h
  have hA : (n = 0 ∨ ∃ b off, A = some ⟨b, off, none⟩) := by
    rcases Nat.eq_zero_or_pos n with h0 | h0
    · exact .inl h0
    · obtain ⟨b, off, e, _⟩ := HR.out (by rw [List.length_map, HN.out]; exact h0)
      exact .inr ⟨b, off, e⟩
  rcases hA with h0 | ⟨b, off, rfl⟩
  · go_enter Tryz.func213, Tryz.ntmps213
    go_wp2_with fail
    refine wp_scope_fwd 1 ?_
    go_wp2_with go_step3
    go_loopw [4, 9] (fun e i wr => ∃ k : Nat, k ≤ n ∧ i = .int .i64 k ∧ e = .int .i64 0 ∧ Below w.heap.size w wr ∧ Hid ((xs.take k).all rightS = true)) (fun _ i _ => n - (intOf i).toNat)
    case atStart => exact ⟨0, Nat.zero_le _, rfl, rfl, Below.refl _ _, Lib.hid (by simp)⟩
    case round =>
      obtain ⟨k, hk, rfl, rfl, hb, HP⟩ := hrel
      by_cases hlt : k < n
      · exfalso; omega
      · have HT : Hid (xs.all rightS = true) := by
          have := HP.out; rw [List.take_of_length_le (by rw [HN.out]; omega)] at this; exact this
        go_wp2_with go_step3
        rw [fwd_ret]
        go_ret
        exact ⟨by rw [HT.out]; rfl, hb⟩
  · go_enter Tryz.func213, Tryz.ntmps213
    go_wp2_with fail
    refine wp_scope_fwd 1 ?_
    go_wp2_with go_step3
    go_loopw [4, 9] (fun e i wr => ∃ k : Nat, k ≤ n ∧ i = .int .i64 k ∧ e = .int .i64 0 ∧ Below w.heap.size w wr ∧ Hid ((xs.take k).all rightS = true)) (fun _ i _ => n - (intOf i).toNat)
    case atStart => exact ⟨0, Nat.zero_le _, rfl, rfl, Below.refl _ _, Lib.hid (by simp)⟩
    case round =>
      obtain ⟨k, hk, rfl, rfl, hb, HP⟩ := hrel
      by_cases hlt : k < n
      · have hk' : k < xs.length := by rw [HN.out]; exact hlt
        obtain ⟨b', off', e', hb', hc⟩ := HR.out.get (k := k) (u := .string xs[k]) (by rw [List.getElem?_map, List.getElem?_eq_getElem hk']; rfl)
        have hc2 : wr.cell? ⟨b, off + k, none⟩ = some (.string xs[k]) := by
          cases e'
          rw [hb.cell (p := ⟨b, off + k, none⟩) hb']; exact hc
        have hsz := HS.out xs[k] (List.getElem_mem hk')
        have HM : Hid (xs[k] ∈ xs) := List.getElem_mem hk'
        have HT : Hid ((xs.take (k + 1)).all rightS = rightS xs[k]) := by
          rw [Hid, List.take_succ_eq_append_getElem hk', List.all_append, HP.out]; simp
        generalize xs[k] = s at hc2 hsz HM HT
        clear e' hc hb'
        cases hr : rightS s
        · have HC := Lib.hid (check_any s wr hsz)
          have HR2 := Lib.hid hr
          clear hr
          have HF : Hid (xs.all rightS = false) := by
            rw [Hid, Bool.eq_false_iff]; intro ha
            have := List.all_eq_true.1 ha s HM.out
            rw [HR2.out] at this; cases this
          go_wp2_with (go_at_call 202; refine HC.out.mono ?_; rintro e w' ⟨rfl, hb1⟩; rw [show rightB s.data.toList = false from HR2.out])
          go_step3
          go_simp
          refine fwd_goto _ rfl ?_
          go_wp2_with go_step3
          try rw [fwd_ret]
          go_ret
          exact ⟨by rw [HF.out]; rfl, hb.trans (hb1.mono hb.size)⟩
        · have HC := Lib.hid (check_any s wr hsz)
          have HR2 := Lib.hid hr
          clear hr
          go_wp2_with (go_at_call 202; refine HC.out.mono ?_; rintro e w' ⟨rfl, hb1⟩; rw [show rightB s.data.toList = true from HR2.out])
          go_roundw
          case rel => exact ⟨k + 1, by omega, by go_num, rfl, hb.trans (hb1.mono hb.size), Lib.hid (by rw [HT.out]; exact HR2.out)⟩
          case measure => simp [intOf]; omega
      · have HT : Hid (xs.all rightS = true) := by
          have := HP.out; rw [List.take_of_length_le (by rw [HN.out]; omega)] at this; exact this
        go_wp2_with go_step3
        rw [fwd_ret]
        go_ret
        exact ⟨by rw [HT.out]; rfl, hb⟩
end Go.Proofs.YtibpagmpdgflmaaGreatDoor
