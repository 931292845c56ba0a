/- LabelBytes returns true, whatever the text, the place and the byte. Conditions: none. -/
import Derived.Test.YtkhpdlaljepkjaaN2
namespace Go.Proofs.Ytkhpdlaljepkjaa
open Go.RowKit

theorem wf_byte {c : Int} (h : (Lit.int .u8 c).wf = true) : 0 ≤ c ∧ c < 256 := by
  simp [Lit.wf, IntKind.min, IntKind.max, IntKind.signed, IntKind.bits] at h
  omega
set_option maxRecDepth 200000 in
set_option maxHeartbeats 4000000 in
theorem labelBytes_any (s : ByteArray) (a c : Int) (w : World) (hs : s.size ≤ maxLen) (hwa : (Lit.int .i64 a).wf = true) (hwc : (Lit.int .u8 c).wf = true) :
    Calls Try.prog 7 #[.string s, .int .i64 a, .int .u8 c] w fun e w' => e = .returned (.bool true) ∧ Below w.heap.size w w' := by
  have HK := Lib.hid works_any
  obtain ⟨hc0, hc256⟩ := wf_byte hwc
  have HWS := Lib.hid (fun W => labelWords_any s W hs)
  have HWA := Lib.hid hwa
  clear hwa hwc
  by_cases hfar : 60 < s.size ∨ a < 0 ∨ 40 ≤ a ∨ c = 0
  · have hq : (60 < s.size) ∨ (s.size ≤ 60 ∧ a < 0) ∨ (s.size ≤ 60 ∧ 0 ≤ a ∧ 40 ≤ a) ∨ (s.size ≤ 60 ∧ 0 ≤ a ∧ a < 40 ∧ c = 0) := by omega
    clear hfar hc0 hc256
    rcases hq with h | ⟨h0, h⟩ | ⟨h0, h1, h⟩ | ⟨h0, h1, h, rfl⟩
    all_goals
      go_enter Try.func7, Try.ntmps7
      go_wp2_with fail
      refine (HK.out _).mono ?_
      rintro e w1 ⟨rfl, hb1⟩
      go_wp2_with fail
      go_ret
      exact ⟨rfl, hb1⟩
  · have h60 : s.size ≤ 60 := by omega
    obtain ⟨a, rfl⟩ := Int.eq_ofNat_of_zero_le (show 0 ≤ a by omega)
    obtain ⟨c, rfl⟩ := Int.eq_ofNat_of_zero_le hc0
    have ha : a < 40 := by omega
    have hp : 0 < c := by omega
    have hc : c < 256 := by omega
    cases hrs : rightB (bytesOf s)
    · have hws := HWS.out
      rw [hrs, wordsP_wrong hrs, show errB false = 160 from rfl] at hws
      have HW := Lib.hid hws
      clear hws HWS
      have hq : ((c : Int) == 0) = false := by rw [beq_eq_false_iff_ne]; omega
      unfold encF at HW
      go_enter Try.func7, Try.ntmps7
      go_wp2_with fail
      refine (HW.out _).mono ?_
      rintro e w1 ⟨rfl, hb1⟩
      have HB1 := Lib.hid hb1
      clear hb1
      go_wp2_with (go_at_call 11; refine (num_any _ _).mono ?_; rintro e w9 ⟨rfl, rfl⟩)
      refine (HK.out _).mono ?_
      rintro e w2 ⟨rfl, hb2⟩
      go_wp2_with fail
      go_ret
      exact ⟨rfl, below_trans (HB1.out.alloc HB1.out.size _) hb2⟩
    · have hws := HWS.out
      rw [hrs, wordsP_right hrs, show errB true = 0 from rfl] at hws
      have hrm := read_mix hrs ha hp hc
      have hlt := mixW_lt (wordAt_lt (bytesOf s)) (k := a / 8) (show a % 8 < 8 by omega) hc
      have hff := wordAt_lt (bytesOf s)
      generalize wordAt (bytesOf s) = f at *
      have hR := fun W => labelRead_any (mixW f (a / 8) (a % 8) c) hlt s.size W (wf_60 _ hs)
      have hS := fun W => labelSame_any s (mixW f (a / 8) (a % 8) c) hlt s.size W (wf_60 _ hs)
      rw [size_bytesOf] at hrm
      rw [hrm.2] at hS
      refine bytes_core s w f a s.size c (a / 8) (a % 8) (ofBytes (readL (mixW f (a / 8) (a % 8) c) s.size).1) (readL (mixW f (a / 8) (a % 8) c) s.size).2 rfl h60 ha hp hc rfl rfl hff ?_ hws hR hS
      rcases hrm.1 with h | ⟨h1, h2, h3⟩
      · exact .inl h
      · refine .inr ⟨h1, ?_, h3⟩
        rw [beq_eq_false_iff_ne, ByteArray.toList_eq, ByteArray.toList_eq]
        exact h2
end Go.Proofs.Ytkhpdlaljepkjaa
