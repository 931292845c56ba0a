/- LabelReads returns true, whatever the words, the number and the text. Conditions: none. -/
import Derived.Test.YtkhpdlaljepkjaaM3
import Derived.Test.YtkhpdlaljepkjaaN1
namespace Go.Proofs.Ytkhpdlaljepkjaa
open Go.RowKit

theorem readL_cases (f : Nat → Nat) (many : Int) : readL f many = ([], 161) ∨ (readL f many).2 = 0 := by
  unfold readL
  split
  · exact .inr rfl
  · exact .inl rfl
set_option maxRecDepth 200000 in
set_option maxHeartbeats 4000000 in
theorem labelReads_any (f : Nat → Nat) (many : Int) (s : ByteArray) (w : World) (hf : ∀ k, f k < 18446744073709551616) (hm : (Lit.int .i64 many).wf = true) (hs : s.size ≤ maxLen) :
    Calls Try.prog 5 #[encF f, .int .i64 many, .string s] w fun e w' => e = .returned (.bool true) ∧ Below w.heap.size w w' := by
  have HK := Lib.hid works_any
  have hR := fun W => labelRead_any f hf many W hm
  have hQ := fun W => refRead_any f hf many W hm
  have hS := fun W => labelSame_any s f hf many W hm
  have hsame : sameL (bytesOf s) f many = ((readL f many).2 == 0 && (readL f many).1 == bytesOf s) := rfl
  have hcs := readL_cases f many
  obtain ⟨a, z, hrd⟩ : ∃ a z, readL f many = (a, z) := ⟨_, _, rfl⟩
  rw [hsame] at hS
  rw [hrd] at hR hQ hS hcs
  have hts : ((ofBytes a).toList == s.toList) = (a == bytesOf s) := by rw [ByteArray.toList_eq, ByteArray.toList_eq]; rfl
  have HM := Lib.hid hm
  clear hf hsame hrd hm
  simp only at hR hQ hS hcs
  by_cases h60 : 200 < s.size
  · unfold encF
    go_enter Try.func5, Try.ntmps5
    go_wp2_with fail
    refine (HK.out _).mono ?_
    rintro e w1 ⟨rfl, hb1⟩
    go_wp2_with fail
    go_ret
    exact ⟨rfl, (Below.refl _ _).alloc (Nat.le_refl _) _ |> fun h => below_trans h hb1⟩
  · rcases hcs with h | rfl
    · injection h with h1 h2
      subst h1; subst h2
      clear hts
      rw [show ofBytes [] = ⟨#[]⟩ from rfl] at hR hQ
      rw [show ((161 : Int) == 0) = false from rfl] at hQ hS
      rw [Bool.false_and] at hS
      unfold encF at hR hQ hS ⊢
      have HR := Lib.hid hR
      have HQ := Lib.hid hQ
      have HS := Lib.hid hS
      clear hR hQ hS
      go_enter Try.func5, Try.ntmps5
      go_wp2_with fail
      refine (HR.out _).mono ?_
      rintro e w1 ⟨rfl, hb1⟩
      have HA0 := Lib.hid (arr5_new w f 33)
      have HA1 := Lib.hid (HA0.out.below hb1 (by simp))
      have HB1 := Lib.hid (below_trans ((Below.refl _ _).alloc (Nat.le_refl _) (.cells #[.int .u64 (f 0 : Nat), .int .u64 (f 1 : Nat), .int .u64 (f 2 : Nat), .int .u64 (f 3 : Nat), .int .u64 (f 4 : Nat)] 33)) hb1)
      have hs1 : w.heap.size < w1.heap.size := by have := hb1.size; simp at this; omega
      obtain ⟨d0, d1, d2, d3, d4⟩ := HA1.out.five
      clear hb1
      go_wp2_with fail
      refine (HQ.out _).mono ?_
      rintro e w2 ⟨rfl, hb2⟩
      have HA2 := Lib.hid (HA1.out.below hb2 hs1)
      have HB2 := Lib.hid (below_trans HB1.out hb2)
      have hs2 : w.heap.size < w2.heap.size := by have := hb2.size; omega
      clear d0 d1 d2 d3 d4
      obtain ⟨d0, d1, d2, d3, d4⟩ := HA2.out.five
      clear hb2
      go_wp2_with fail
      refine (HS.out _).mono ?_
      rintro e w3 ⟨rfl, hb3⟩
      have HB3 := Lib.hid (below_trans HB2.out hb3)
      clear d0 d1 d2 d3 d4 hb3
      go_wp2_with (go_at_call 11; refine (num_any _ _).mono ?_; rintro e w9 ⟨rfl, rfl⟩)
      refine (HK.out _).mono ?_
      rintro e w4 ⟨rfl, hb4⟩
      go_wp2_with fail
      go_ret
      exact ⟨rfl, below_trans HB3.out hb4⟩
    · rw [show ((0 : Int) == 0) = true from rfl] at hQ hS
      rw [Bool.true_and] at hS
      cases hq : (a == bytesOf s)
      all_goals
        rw [hq] at hts
        rw [hq] at hS
        clear hq
        generalize ofBytes a = t at *
        have htt : (t.toList == t.toList) = true := by simp
        unfold encF at hR hQ hS ⊢
        have HR := Lib.hid hR
        have HQ := Lib.hid hQ
        have HS := Lib.hid hS
        clear hR hQ hS
        go_enter Try.func5, Try.ntmps5
        go_wp2_with fail
        refine (HR.out _).mono ?_
        rintro e w1 ⟨rfl, hb1⟩
        have HA0 := Lib.hid (arr5_new w f 33)
        have HA1 := Lib.hid (HA0.out.below hb1 (by simp))
        have HB1 := Lib.hid (below_trans ((Below.refl _ _).alloc (Nat.le_refl _) (.cells #[.int .u64 (f 0 : Nat), .int .u64 (f 1 : Nat), .int .u64 (f 2 : Nat), .int .u64 (f 3 : Nat), .int .u64 (f 4 : Nat)] 33)) hb1)
        have hs1 : w.heap.size < w1.heap.size := by have := hb1.size; simp at this; omega
        obtain ⟨d0, d1, d2, d3, d4⟩ := HA1.out.five
        clear hb1
        go_wp2_with fail
        refine (HQ.out _).mono ?_
        rintro e w2 ⟨rfl, hb2⟩
        have HA2 := Lib.hid (HA1.out.below hb2 hs1)
        have HB2 := Lib.hid (below_trans HB1.out hb2)
        have hs2 : w.heap.size < w2.heap.size := by have := hb2.size; omega
        clear d0 d1 d2 d3 d4
        obtain ⟨d0, d1, d2, d3, d4⟩ := HA2.out.five
        clear hb2
        go_wp2_with fail
        refine (HS.out _).mono ?_
        rintro e w3 ⟨rfl, hb3⟩
        have HB3 := Lib.hid (below_trans HB2.out hb3)
        clear d0 d1 d2 d3 d4 hb3
        go_wp2_with (go_at_call 11; refine (num_any _ _).mono ?_; rintro e w9 ⟨rfl, rfl⟩)
        refine (HK.out _).mono ?_
        rintro e w4 ⟨rfl, hb4⟩
        go_wp2_with fail
        go_ret
        exact ⟨rfl, below_trans HB3.out hb4⟩
end Go.Proofs.Ytkhpdlaljepkjaa
