/- The law PathHolds as a call. Conditions: none. -/
import Derived.Test.YtkhpdlaljepkjaaDoorL3
namespace Go.Proofs.YtkhpdlaljepkjaaDoor
open Go.RowKit Go.Shelf
attribute [local go_sem] Oper.semAt_some

theorem readP_range (s : List UInt8) : 0 ≤ (readP s).1 ∧ (readP s).1 ≤ 170 := by
  rcases readP_cases s with ⟨e, _⟩ | ⟨e | e, _⟩ <;> rw [e] <;> decide
/-- What the four answers are to each other. -/
theorem four (s t u : List UInt8) (h : (readP s).1 = 0) :
    (withinP s t).2 = (readP t).1 ∧ (withinP t s).2 = (readP t).1 ∧ (0 ≤ (withinP t u).2 ∧ (withinP t u).2 ≤ 170) ∧ (withinP s u).2 = (readP u).1 ∧ ((withinP s t).1 = true → (withinP t s).1 = false) ∧
    ((readP t).1 + (withinP t u).2 + (readP u).1 = 0 → (withinP s t).1 = true → (withinP t u).1 = true → (withinP s u).1 = true) := by
  have ht := readP_range t
  have hu := readP_range u
  have e1 : (withinP s t).2 = (readP t).1 := by rw [withinP_err, if_neg (by omega)]
  have e2 : (withinP t s).2 = (readP t).1 := by
    rw [withinP_err]
    by_cases e : (readP t).1 ≠ 0
    · rw [if_pos e]
    · rw [if_neg e]; omega
  have e3 : 0 ≤ (withinP t u).2 ∧ (withinP t u).2 ≤ 170 := by
    rw [withinP_err]
    split <;> assumption
  have e4 : (withinP s u).2 = (readP u).1 := by rw [withinP_err, if_neg (by omega)]
  refine ⟨e1, e2, e3, e4, fun ha => ?_, fun hz ha hc => ?_⟩
  · by_cases et : (readP t).1 = 0
    · rw [withinP_ok h et] at ha
      rw [withinP_ok et h]; exact withinN_antisymm ha
    · rw [withinP, if_pos et]
  · have et : (readP t).1 = 0 := by omega
    have eu : (readP u).1 = 0 := by omega
    rw [withinP_ok h et] at ha
    rw [withinP_ok et eu] at hc
    rw [withinP_ok h eu]; exact withinN_trans ha hc

set_option maxRecDepth 100000 in
set_option maxHeartbeats 4000000 in
theorem law_holds (s t u : ByteArray) (w : World) (hs : s.size < 140737488355328) (ht : t.size < 140737488355328) (hu : u.size < 140737488355328) :
    Calls Tryd.prog 8 #[.string s, .string t, .string u] w fun e w' => e = .returned (.bool true) ∧ Below w.heap.size w w' := by
  have HWK := Lib.hid works_any
  have hlong : 300 < s.size ∨ (¬ 300 < s.size ∧ 300 < t.size) ∨ (¬ 300 < s.size ∧ ¬ 300 < t.size ∧ 300 < u.size) ∨ (¬ 300 < s.size ∧ ¬ 300 < t.size ∧ ¬ 300 < u.size) := by omega
  rcases hlong with h1 | ⟨h1, h2⟩ | ⟨h1, h2, h3⟩ | ⟨h1, h2, h3⟩
  iterate 3
    · go_enter Tryd.func8, Tryd.ntmps8
      go_wp2_with fail
      refine (HWK.out _).mono ?_
      rintro e w' ⟨rfl, hb⟩
      go_wp2_with fail
      go_ret
      exact ⟨rfl, hb⟩
  · by_cases hz : (readP (bytesOf s)).1 = 0
    · obtain ⟨h16, hall⟩ := readP_fine hz
      have htx := textP_readP hz
      have hfo := four (bytesOf s) (bytesOf t) (bytesOf u) hz
      have hwp := fun h => within_parent (s := bytesOf s) h
      have hps : (parentP (bytesOf s)).2.2 = 0 → (ofBytes (parentP (bytesOf s)).1).size < 4294967281 := fun h => by
        obtain ⟨hr1, hr2, _⟩ := split_parent h
        obtain ⟨h16', hall'⟩ := readP_fine hr1
        have : (ofBytes (parentP (bytesOf s)).1).size = (parentP (bytesOf s)).1.length := rfl
        rw [this, ← textP_readP hr1]
        have := textP_size h16' hall'
        omega
      obtain ⟨l, hl⟩ : ∃ l, readP (bytesOf s) = (0, l) := ⟨_, Prod.ext hz rfl⟩
      have HC := Lib.hid (psplit_to hl (by omega))
      rw [hl] at h16 hall htx
      simp only at h16 hall htx
      have HJ : Hid (∀ W A c, l.length ≤ c → c ≤ maxLen → RowAt W A (l.map fun x => .string (ofBytes x)) → Calls Tryd.prog 20 #[.slice A l.length c] W fun e W' => e = .returned (.tuple #[.string s, .int .i64 0]) ∧ Below W.heap.size W W') := fun W A c h1 h2 h => by
        have := join_any (l.map ofBytes) A l.length c W (by simp) h1 h2 (ofBytes_small hall) (by rw [List.map_map]; exact h)
        unfold JoinPost at this
        rw [joinP_names h16 hall, htx] at this
        exact this
      have HPA := Lib.hid (fun W => parent_any s W (by omega))
      unfold ParentPost at HPA
      have HWP : Hid ((parentP (bytesOf s)).2.2 = 0 → ∀ W, Calls Tryd.prog 18 #[.string s, .string (ofBytes (parentP (bytesOf s)).1)] W fun e W' => e = .returned (.tuple #[.bool true, .int .i64 0]) ∧ Below W.heap.size W W') := fun h W => by
        have := within_any s (ofBytes (parentP (bytesOf s)).1) W (by omega) (hps h)
        unfold WithinPost at this
        rw [bytesOf_ofBytes, hwp h] at this
        exact this
      have HW1 := Lib.hid (fun W => within_any s t W (by omega) (by omega))
      have HW2 := Lib.hid (fun W => within_any t s W (by omega) (by omega))
      have HW3 := Lib.hid (fun W => within_any t u W (by omega) (by omega))
      have HW4 := Lib.hid (fun W => within_any s u W (by omega) (by omega))
      unfold WithinPost at HW1 HW2 HW3 HW4
      have htr := readP_range (bytesOf t)
      have hur := readP_range (bytesOf u)
      obtain ⟨e1, e2, e3, e4, hab, hac⟩ := hfo
      rw [e1] at HW1
      rw [e2] at HW2
      rw [e4] at HW4
      have HL := Lib.hid hl
      clear hz htx hall hwp hps e1 e2 e4 hl
      generalize (withinP (bytesOf s) (bytesOf t)).1 = a at *
      generalize (withinP (bytesOf t) (bytesOf s)).1 = b at *
      generalize (withinP (bytesOf t) (bytesOf u)).1 = c at *
      generalize (withinP (bytesOf s) (bytesOf u)).1 = d at *
      generalize (withinP (bytesOf t) (bytesOf u)).2 = z3 at *
      generalize (readP (bytesOf t)).1 = z1 at *
      generalize (readP (bytesOf u)).1 = z2 at *
      generalize ofBytes (parentP (bytesOf s)).1 = p at *
      generalize ofBytes (parentP (bytesOf s)).2.1 = la at *
      generalize (parentP (bytesOf s)).2.2 = zp at *
      obtain ⟨n, HN, hn16⟩ : ∃ n : Nat, Hid (l.length = n) ∧ n ≤ 16 := ⟨_, rfl, h16⟩
      rw [HN.out] at HC HJ
      clear h16
      have key : (((z1 + z3 + z2 != 0) = true ∧ a = false) ∨ ((z1 + z3 + z2 != 0) = true ∧ a = true ∧ b = false) ∨ ((z1 + z3 + z2 != 0) = false ∧ a = false) ∨
          ((z1 + z3 + z2 != 0) = false ∧ a = true ∧ b = false ∧ c = false) ∨ ((z1 + z3 + z2 != 0) = false ∧ a = true ∧ b = false ∧ c = true ∧ d = true)) ∧ (zp = 0 ∨ (zp == 0) = false) := by
        refine ⟨?_, ?_⟩
        · by_cases hsum : z1 + z3 + z2 = 0
          · have e : (z1 + z3 + z2 != 0) = false := by rw [hsum]; rfl
            cases a
            · exact .inr (.inr (.inl ⟨e, rfl⟩))
            · cases c
              · exact .inr (.inr (.inr (.inl ⟨e, rfl, hab rfl, rfl⟩)))
              · exact .inr (.inr (.inr (.inr ⟨e, rfl, hab rfl, rfl, hac hsum rfl rfl⟩)))
          · have e : (z1 + z3 + z2 != 0) = true := by rw [bne_iff_ne]; exact hsum
            cases a
            · exact .inl ⟨e, rfl⟩
            · exact .inr (.inl ⟨e, rfl, hab rfl⟩)
        · by_cases e : zp = 0
          · exact .inl e
          · exact .inr (by rw [beq_eq_false_iff_ne]; exact e)
      clear hab hac
      obtain ⟨hS, hP⟩ := key
      rcases hP with rfl | hP
      · have HWP' := Lib.hid (HWP.out rfl)
        clear HWP
        rcases hS with ⟨hS, rfl⟩ | ⟨hS, rfl, rfl⟩ | ⟨hS, rfl⟩ | ⟨hS, rfl, rfl, rfl⟩ | ⟨hS, rfl, rfl, rfl, rfl⟩
        all_goals
          go_enter Tryd.func8, Tryd.ntmps8
          go_wp2_with fail
          refine (HC.out _).mono ?_
          rintro e w1 ⟨A1, c1, rfl, hc1, hm1, HR1, hb1⟩
          go_wp2_with (go_at_call 15; refine (num_any _ _).mono ?_; rintro e w2 ⟨rfl, rfl⟩)
          refine (HJ.out _ _ _ hc1 hm1 HR1.out).mono ?_
          rintro e w2 ⟨rfl, hb2⟩
          have HB2 := Lib.hid (below_trans hb1 hb2)
          clear hb1 hb2
          go_wp2_with (go_at_call 15; refine (num_any _ _).mono ?_; rintro e w2 ⟨rfl, rfl⟩)
          refine (HPA.out _).mono ?_
          rintro e w3 ⟨rfl, hb3⟩
          have HB3 := Lib.hid (below_trans HB2.out hb3)
          clear hb3
          go_wp2_with (go_at_call 15; refine (num_any _ _).mono ?_; rintro e w2 ⟨rfl, rfl⟩)
          refine (HWP'.out _).mono ?_
          rintro e w4 ⟨rfl, hb4⟩
          have HB4 := Lib.hid (below_trans HB3.out hb4)
          clear hb4
          go_wp2_with (go_at_call 15; refine (num_any _ _).mono ?_; rintro e w2 ⟨rfl, rfl⟩)
          refine (HW1.out _).mono ?_
          rintro e w5 ⟨rfl, hb5⟩
          have HB5 := Lib.hid (below_trans HB4.out hb5)
          clear hb5
          go_wp2_with fail
          refine (HW2.out _).mono ?_
          rintro e w6 ⟨rfl, hb6⟩
          have HB6 := Lib.hid (below_trans HB5.out hb6)
          clear hb6
          go_wp2_with fail
          refine (HW3.out _).mono ?_
          rintro e w7 ⟨rfl, hb7⟩
          have HB7 := Lib.hid (below_trans HB6.out hb7)
          clear hb7
          go_wp2_with fail
          refine (HW4.out _).mono ?_
          rintro e w8 ⟨rfl, hb8⟩
          have HB8 := Lib.hid (below_trans HB7.out hb8)
          clear hb8
          go_wp2_with (go_at_call 15; refine (num_any _ _).mono ?_; rintro e w2 ⟨rfl, rfl⟩)
          refine (HWK.out _).mono ?_
          rintro e w9 ⟨rfl, hb9⟩
          go_wp2_with fail
          go_ret
          exact ⟨rfl, below_trans HB8.out hb9⟩
      · clear HWP
        rcases hS with ⟨hS, rfl⟩ | ⟨hS, rfl, rfl⟩ | ⟨hS, rfl⟩ | ⟨hS, rfl, rfl, rfl⟩ | ⟨hS, rfl, rfl, rfl, rfl⟩
        all_goals
          go_enter Tryd.func8, Tryd.ntmps8
          go_wp2_with fail
          refine (HC.out _).mono ?_
          rintro e w1 ⟨A1, c1, rfl, hc1, hm1, HR1, hb1⟩
          go_wp2_with (go_at_call 15; refine (num_any _ _).mono ?_; rintro e w2 ⟨rfl, rfl⟩)
          refine (HJ.out _ _ _ hc1 hm1 HR1.out).mono ?_
          rintro e w2 ⟨rfl, hb2⟩
          have HB2 := Lib.hid (below_trans hb1 hb2)
          clear hb1 hb2
          go_wp2_with (go_at_call 15; refine (num_any _ _).mono ?_; rintro e w2 ⟨rfl, rfl⟩)
          refine (HPA.out _).mono ?_
          rintro e w3 ⟨rfl, hb3⟩
          have HB4 := Lib.hid (below_trans HB2.out hb3)
          clear hb3
          go_wp2_with (go_at_call 15; refine (num_any _ _).mono ?_; rintro e w2 ⟨rfl, rfl⟩)
          refine (HW1.out _).mono ?_
          rintro e w5 ⟨rfl, hb5⟩
          have HB5 := Lib.hid (below_trans HB4.out hb5)
          clear hb5
          go_wp2_with fail
          refine (HW2.out _).mono ?_
          rintro e w6 ⟨rfl, hb6⟩
          have HB6 := Lib.hid (below_trans HB5.out hb6)
          clear hb6
          go_wp2_with fail
          refine (HW3.out _).mono ?_
          rintro e w7 ⟨rfl, hb7⟩
          have HB7 := Lib.hid (below_trans HB6.out hb7)
          clear hb7
          go_wp2_with fail
          refine (HW4.out _).mono ?_
          rintro e w8 ⟨rfl, hb8⟩
          have HB8 := Lib.hid (below_trans HB7.out hb8)
          clear hb8
          go_wp2_with (go_at_call 15; refine (num_any _ _).mono ?_; rintro e w2 ⟨rfl, rfl⟩)
          refine (HWK.out _).mono ?_
          rintro e w9 ⟨rfl, hb9⟩
          go_wp2_with fail
          go_ret
          exact ⟨rfl, below_trans HB8.out hb9⟩
    · have hz' : ((readP (bytesOf s)).1 != 0) = true := by rw [bne_iff_ne]; exact hz
      have HC := Lib.hid (psplit_to (s := s) (z := (readP (bytesOf s)).1) (l := (readP (bytesOf s)).2) rfl (by omega))
      clear hz
      generalize (readP (bytesOf s)).1 = z at *
      generalize (readP (bytesOf s)).2 = l at *
      go_enter Tryd.func8, Tryd.ntmps8
      go_wp2_with fail
      refine (HC.out _).mono ?_
      rintro e w1 ⟨A1, c1, rfl, hc1, hm1, HR1, hb1⟩
      go_wp2_with (go_at_call 15; refine (num_any _ _).mono ?_; rintro e w2 ⟨rfl, rfl⟩)
      refine (HWK.out _).mono ?_
      rintro e w' ⟨rfl, hb⟩
      go_wp2_with fail
      go_ret
      exact ⟨rfl, below_trans hb1 hb⟩
end Go.Proofs.YtkhpdlaljepkjaaDoor
