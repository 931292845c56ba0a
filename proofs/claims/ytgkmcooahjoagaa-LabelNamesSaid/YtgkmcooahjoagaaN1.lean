/- LabelHolds returns true, whatever the two texts. Conditions: none. -/
import Derived.Test.YtgkmcooahjoagaaM2
import Derived.Test.YtgkmcooahjoagaaP9
namespace Go.Proofs.Ytgkmcooahjoagaa
open Go.RowKit

theorem wf_60 (n : Nat) (h : n ≤ maxLen) : (Lit.int .i64 n).wf = true := by
  unfold maxLen at h
  simp [Lit.wf, IntKind.min, IntKind.max, IntKind.signed, IntKind.bits]
  omega
theorem arr5_new (w : World) (f : Nat → Nat) (t : TypeId) : Arr5 (w.alloc (.cells #[.int .u64 (f 0 : Nat), .int .u64 (f 1 : Nat), .int .u64 (f 2 : Nat), .int .u64 (f 3 : Nat), .int .u64 (f 4 : Nat)] t)) w.heap.size f := by
  refine ⟨fun k hk => ?_, fun k => ?_⟩
  · match k, hk with
    | 0, _ => simp
    | 1, _ => simp
    | 2, _ => simp
    | 3, _ => simp
    | 4, _ => simp
  · simp
theorem arr5_kept {w w' : World} {f : Nat → Nat} {t : TypeId} (h : Below (w.heap.size + 1) (w.alloc (.cells #[.int .u64 (f 0 : Nat), .int .u64 (f 1 : Nat), .int .u64 (f 2 : Nat), .int .u64 (f 3 : Nat), .int .u64 (f 4 : Nat)] t)) w') : Arr5 w' w.heap.size f ∧ w.heap.size < w'.heap.size := by
  have hs := h.size
  simp at hs
  exact ⟨(arr5_new w f t).below h (by omega), by omega⟩
set_option maxRecDepth 200000 in
set_option maxHeartbeats 4000000 in
theorem holds_core (s t : ByteArray) (w : World) (f g : Nat → Nat) (q : Bool) (n m : Nat) (hn : s.size = n) (hm : t.size = m) (hcase : (eqF f g = false ∧ q = false) ∨ (eqF f g = true ∧ q = true ∧ n = m) ∨ (eqF f g = true ∧ q = false ∧ ((n : Int) == (m : Int)) = false)) (hsq : (s.toList == t.toList) = q) (h60 : n ≤ 60) (g60 : m ≤ 60)
    (hws : ∀ W, Calls Try.prog 18 #[.string s] W fun e w' => e = .returned (.tuple #[encF f, .int .i64 0]) ∧ Below W.heap.size W w')
    (hwt : ∀ W, Calls Try.prog 18 #[.string t] W fun e w' => e = .returned (.tuple #[encF g, .int .i64 0]) ∧ Below W.heap.size W w')
    (hR : ∀ W, Calls Try.prog 15 #[encF f, .int .i64 n] W fun e w' => e = .returned (.tuple #[.string s, .int .i64 0]) ∧ Below W.heap.size W w')
    (hS1 : ∀ W, Calls Try.prog 17 #[.string s, encF f, .int .i64 n] W fun e w' => e = .returned (.bool true) ∧ Below W.heap.size W w')
    (hS2 : ∀ W, Calls Try.prog 17 #[.string t, encF f, .int .i64 n] W fun e w' => e = .returned (.bool q) ∧ Below W.heap.size W w')
    (heq : ∀ W, (binOp .eql 33 (encF f) (encF g)).run Try.prog W = .ok (.bool (eqF f g)) W) :
    Calls Try.prog 6 #[.string s, .string t] w fun e w' => e = .returned (.bool true) ∧ Below w.heap.size w w' := by
  have HK := Lib.hid works_any
  have HSQ := Lib.hid hsq
  unfold encF at hws hwt hR hS1 hS2 heq
  have HWS := Lib.hid hws
  have HWT := Lib.hid hwt
  have HR := Lib.hid hR
  have HS1 := Lib.hid hS1
  have HS2 := Lib.hid hS2
  have HEQ := Lib.hid heq
  clear hws hwt hR hS1 hS2 heq hsq
  rcases hcase with ⟨hfg, rfl⟩ | ⟨hfg, rfl, rfl⟩ | ⟨hfg, rfl, hsz⟩
  all_goals
    rw [hfg] at HEQ
    clear hfg
    go_enter Try.func6, Try.ntmps6
    go_wp2_with fail
    refine (HWS.out _).mono ?_
    rintro e w1 ⟨rfl, hb1⟩
    have HB1 := Lib.hid (hb1.alloc hb1.size (.cells #[.int .u64 (f 0 : Nat), .int .u64 (f 1 : Nat), .int .u64 (f 2 : Nat), .int .u64 (f 3 : Nat), .int .u64 (f 4 : Nat)] 33))
    have HA1 := Lib.hid (arr5_new w1 f 33)
    clear hb1
    go_wp2_with fail
    refine (HWT.out _).mono ?_
    rintro e w2 ⟨rfl, hb2⟩
    have HB2 := Lib.hid (below_trans HB1.out hb2)
    have HA2 := Lib.hid (HA1.out.below hb2 (by simp))
    have hs2 : w1.heap.size < w2.heap.size := by have := hb2.size; simp at this; omega
    have HB2' := Lib.hid (HB2.out.alloc HB2.out.size (.cells #[.int .u64 (g 0 : Nat), .int .u64 (g 1 : Nat), .int .u64 (g 2 : Nat), .int .u64 (g 3 : Nat), .int .u64 (g 4 : Nat)] 33))
    have HA2' := Lib.hid (HA2.out.below ((Below.refl _ w2).alloc (Nat.le_refl _) (.cells #[.int .u64 (g 0 : Nat), .int .u64 (g 1 : Nat), .int .u64 (g 2 : Nat), .int .u64 (g 3 : Nat), .int .u64 (g 4 : Nat)] 33)) hs2)
    have HG2 := Lib.hid (arr5_new w2 g 33)
    have hs2' : w1.heap.size < (w2.alloc (.cells #[.int .u64 (g 0 : Nat), .int .u64 (g 1 : Nat), .int .u64 (g 2 : Nat), .int .u64 (g 3 : Nat), .int .u64 (g 4 : Nat)] 33)).heap.size := by simp; omega
    have hs2'' : w2.heap.size < (w2.alloc (.cells #[.int .u64 (g 0 : Nat), .int .u64 (g 1 : Nat), .int .u64 (g 2 : Nat), .int .u64 (g 3 : Nat), .int .u64 (g 4 : Nat)] 33)).heap.size := by simp
    obtain ⟨d0, d1, d2, d3, d4⟩ := HA2.out.five
    clear hb2
    go_wp2_with (go_at_call 12; refine (num_any _ _).mono ?_; rintro e w9 ⟨rfl, rfl⟩)
    refine (HR.out _).mono ?_
    rintro e w3 ⟨rfl, hb3⟩
    have HB3 := Lib.hid (below_trans HB2'.out hb3)
    have HA3 := Lib.hid (HA2'.out.below hb3 hs2')
    have HG3 := Lib.hid (HG2.out.below hb3 hs2'')
    have hs3 : w1.heap.size < w3.heap.size := by have := hb3.size; omega
    obtain ⟨d0, d1, d2, d3, d4⟩ := HA3.out.five
    obtain ⟨c0, c1, c2, c3, c4⟩ := HG3.out.five
    clear hb3
    have heq := HEQ.out
    have hsq := HSQ.out
    go_wp2_with (go_at_call 12; refine (num_any _ _).mono ?_; rintro e w9 ⟨rfl, rfl⟩)
    clear d0 d1 d2 d3 d4 c0 c1 c2 c3 c4
    have HB4' := HB3
    refine (HS1.out _).mono ?_
    rintro e w4 ⟨rfl, hb4⟩
    have HB4 := Lib.hid (below_trans HB3.out hb4)
    have HA4 := Lib.hid (HA3.out.below hb4 hs3)
    have hs4 : w1.heap.size < w4.heap.size := by have := hb4.size; omega
    obtain ⟨d0, d1, d2, d3, d4⟩ := HA4.out.five
    clear hb4
    go_wp2_with fail
    refine (HS2.out _).mono ?_
    rintro e w5 ⟨rfl, hb5⟩
    have HB5 := Lib.hid (below_trans HB4.out hb5)
    clear d0 d1 d2 d3 d4 hb5
    go_wp2_with fail
    refine (HK.out _).mono ?_
    rintro e w6 ⟨rfl, hb6⟩
    go_wp2_with fail
    go_ret
    exact ⟨rfl, below_trans HB5.out hb6⟩
set_option maxRecDepth 200000 in
set_option maxHeartbeats 4000000 in
theorem labelHolds_any (s t : ByteArray) (w : World) (hs : s.size ≤ maxLen) (ht : t.size ≤ maxLen) :
    Calls Try.prog 6 #[.string s, .string t] w fun e w' => e = .returned (.bool true) ∧ Below w.heap.size w w' := by
  have HK := Lib.hid works_any
  by_cases h60 : s.size ≤ 60
  · by_cases g60 : t.size ≤ 60
    · by_cases hrr : rightB (bytesOf s) = true ∧ rightB (bytesOf t) = true
      · obtain ⟨hrs, hrt⟩ := hrr
        obtain ⟨q, hq⟩ : ∃ q, decide (bytesOf s = bytesOf t) = q := ⟨_, rfl⟩
        have hws := fun W => labelWords_any s W hs
        have hwt := fun W => labelWords_any t W ht
        rw [hrs, wordsP_right hrs] at hws
        rw [hrt, wordsP_right hrt] at hwt
        have hq2 := words_name hrs hrt
        have hss := @same_words (bytesOf s) (bytesOf s) hrs
        have hst := @same_words (bytesOf s) (bytesOf t) hrs
        have hrd := readL_words hrs
        have hff := wordAt_lt (bytesOf s)
        have heq := fun W => run_eql_five (wordAt (bytesOf s)) (wordAt (bytesOf t)) W
        generalize wordAt (bytesOf s) = f at *
        generalize wordAt (bytesOf t) = g at *
        have hR := fun W => labelRead_any f hff s.size W (wf_60 _ hs)
        have hS1 := fun W => labelSame_any s f hff s.size W (wf_60 _ hs)
        have hS2 := fun W => labelSame_any t f hff s.size W (wf_60 _ hs)
        rw [← size_bytesOf s, hrd] at hR
        rw [← size_bytesOf s, hss] at hS1
        rw [← size_bytesOf s, hst] at hS2
        rw [hq] at hS2 hq2
        simp only [decide_true, size_bytesOf] at hR hS1 hS2 hq2
        have hsq : (s.toList == t.toList) = q := by
          rw [ByteArray.toList_eq, ByteArray.toList_eq, ← hq, Bool.eq_iff_iff, beq_iff_eq, decide_eq_true_iff]; rfl
        have e0 : errB true = 0 := rfl
        rw [e0] at hws hwt
        have hz0 : ((s.size : Int) == (t.size : Int)) = decide (s.size = t.size) := by
          rw [Bool.eq_iff_iff, beq_iff_eq, decide_eq_true_iff]; omega
        have hcase : (eqF f g = false ∧ q = false) ∨ (eqF f g = true ∧ q = true ∧ s.size = t.size) ∨ (eqF f g = true ∧ q = false ∧ ((s.size : Int) == (t.size : Int)) = false) := by
          cases hfg : eqF f g
          · rw [hfg] at hq2; exact .inl ⟨rfl, by simpa using hq2.symm⟩
          · rw [hfg, Bool.true_and] at hq2
            by_cases hz : s.size = t.size
            · exact .inr (.inl ⟨rfl, by rw [← hq2]; exact decide_eq_true hz, hz⟩)
            · exact .inr (.inr ⟨rfl, by rw [← hq2]; exact decide_eq_false hz, by rw [hz0]; exact decide_eq_false hz⟩)
        clear hq2 hz0
        refine holds_core s t w f g q s.size t.size rfl rfl hcase hsq h60 g60 hws hwt hR hS1 hS2 heq
      · obtain ⟨f, a, hf, ha⟩ : ∃ (f : Nat → Nat) (a : Int), wordsP (bytesOf s) = f ∧ errB (rightB (bytesOf s)) = a := ⟨_, _, rfl, rfl⟩
        obtain ⟨g, b, hg, hb⟩ : ∃ (g : Nat → Nat) (b : Int), wordsP (bytesOf t) = g ∧ errB (rightB (bytesOf t)) = b := ⟨_, _, rfl, rfl⟩
        have hc : (a = 0 ∧ b = 160) ∨ a = 160 := by
          subst ha; subst hb
          cases h1 : rightB (bytesOf s)
          · exact .inr rfl
          · cases h2 : rightB (bytesOf t)
            · exact .inl ⟨rfl, rfl⟩
            · exact (hrr ⟨h1, h2⟩).elim
        have hws := fun W => labelWords_any s W hs
        have hwt := fun W => labelWords_any t W ht
        rw [hf, ha] at hws
        rw [hg, hb] at hwt
        clear ha hb hf hg hrr
        unfold encF at hws hwt
        have HWS := Lib.hid hws
        have HWT := Lib.hid hwt
        clear hws hwt
        rcases hc with ⟨rfl, rfl⟩ | rfl
        all_goals
          go_enter Try.func6, Try.ntmps6
          go_wp2_with fail
          refine (HWS.out _).mono ?_
          rintro e w1 ⟨rfl, hb1⟩
          have HB1 := Lib.hid (hb1.alloc hb1.size (.cells #[.int .u64 (f 0 : Nat), .int .u64 (f 1 : Nat), .int .u64 (f 2 : Nat), .int .u64 (f 3 : Nat), .int .u64 (f 4 : Nat)] 33))
          clear hb1
          go_wp2_with fail
          refine (HWT.out _).mono ?_
          rintro e w2 ⟨rfl, hb2⟩
          have HB2 := Lib.hid (below_trans HB1.out hb2)
          clear hb2
          go_wp2_with (go_at_call 12; refine (num_any _ _).mono ?_; rintro e w9 ⟨rfl, rfl⟩)
          refine (HK.out _).mono ?_
          rintro e w3 ⟨rfl, hb3⟩
          go_wp2_with fail
          go_ret
          exact ⟨rfl, below_trans (HB2.out.alloc HB2.out.size _) hb3⟩
    · go_enter Try.func6, Try.ntmps6
      go_wp2_with fail
      refine (HK.out _).mono ?_
      rintro e w1 ⟨rfl, hb1⟩
      go_wp2_with fail
      go_ret
      exact ⟨rfl, hb1⟩
  · go_enter Try.func6, Try.ntmps6
    go_wp2_with fail
    refine (HK.out _).mono ?_
    rintro e w1 ⟨rfl, hb1⟩
    go_wp2_with fail
    go_ret
    exact ⟨rfl, hb1⟩
end Go.Proofs.Ytgkmcooahjoagaa
