/- The law PathJoins as a call. Conditions: none. -/
import Derived.Test.YtkhpdlaljepkjaaDoorL3
namespace Go.Proofs.YtkhpdlaljepkjaaDoor
open Go.RowKit Go.Shelf
attribute [local go_sem] Oper.semAt_some

set_option maxRecDepth 100000 in
set_option maxHeartbeats 2000000 in
theorem law_joins (xs : List ByteArray) (A : Option Addr) (n c : Nat) (w : World) (hn : xs.length = n) (hnc : n ≤ c) (hc : c ≤ maxLen) (hs : ∀ s ∈ xs, s.size ≤ maxLen) (h : RowAt w A (xs.map .string)) :
    Calls Tryd.prog 7 #[.slice A n c] w fun e w' => e = .returned (.bool true) ∧ Below w.heap.size w w' := by
  have HWK := Lib.hid works_any
  have HJ := Lib.hid (join_any xs A n c w hn hnc hc hs h)
  have HRJ := Lib.hid (fun W (hb : Below w.heap.size w W) => refjoin_any xs A n c W hn (Nat.le_trans hnc hc) hs (h.below hb))
  have HTX := Lib.hid (fun W (hb : Below w.heap.size w W) B d (h2 : RowAt W B (xs.map .string)) => texts_any xs xs B A n n d c W hn hn (Nat.le_trans hnc hc) h2 (h.below hb))
  rw [show eqL xs xs = true by simp [eqL]] at HTX
  have HR := Lib.hid h
  have HN := Lib.hid hn
  have HS := Lib.hid hs
  have hq : (rightN xs != 0) = true ∨ (rightN xs = 0 ∧ ∃ l, Hid (xs = l.map ofBytes ∧ l.length = n) ∧ (textP l).length ≤ 657 ∧ readP (textP l) = (0, l) ∧ joinP xs = (textP l, 0)) := by
    by_cases e : rightN xs = 0
    · obtain ⟨h16, hall⟩ := rightN_zero e
      refine .inr ⟨e, xs.map bytesOf, ⟨?_, by rw [List.length_map, hn]⟩, ?_, ?_, ?_⟩
      · rw [List.map_map]; exact (List.map_id xs).symm
      · exact textP_size (by rw [List.length_map]; exact h16) (by rw [List.all_map]; exact hall)
      · exact readP_textP (by rw [List.length_map]; exact h16) (by rw [List.all_map]; exact hall)
      · rw [joinP, if_pos e]
    · exact .inl (by rw [bne_iff_ne]; exact e)
  have hjz : (joinP xs).2 = rightN xs := by
    unfold joinP
    by_cases e : rightN xs = 0
    · rw [if_pos e, e]
    · rw [if_neg e]
  unfold JoinPost at HJ
  rw [hjz] at HJ HRJ
  unfold maxLen at hc
  clear h hs hn hjz
  by_cases h20 : 20 < n
  · clear hq
    generalize rightN xs = z at *
    go_enter Tryd.func7, Tryd.ntmps7
    go_wp2_with fail
    refine (HWK.out _).mono ?_
    rintro e w' ⟨rfl, hb⟩
    go_wp2_with fail
    go_ret
    exact ⟨rfl, hb⟩
  · have hA : n = 0 ∨ ∃ b off, A = some ⟨b, off, none⟩ := by
      rcases Nat.eq_zero_or_pos n with h0 | h0
      · exact .inl h0
      · obtain ⟨b, off, e, _⟩ := HR.out (by rw [List.length_map, HN.out]; exact h0)
        exact .inr ⟨b, off, e⟩
    rcases hq with hz | ⟨hz, l, HX, hl657, hrt, hjp⟩
    · generalize rightN xs = z at *
      generalize (joinP xs).1 = jb at *
      rcases hA with rfl | ⟨b, off, rfl⟩
      · go_enter Tryd.func7, Tryd.ntmps7
        go_wp2_with fail
        refine wp_loop_rounds 1 ?_
        rw [rounds_succ]
        go_wp2_with fail
        refine HJ.out.mono ?_
        rintro e w1 ⟨rfl, hb1⟩
        have HB1 := Lib.hid hb1
        clear hb1
        go_wp2_with fail
        refine (HRJ.out _ HB1.out).mono ?_
        rintro e w2 ⟨rfl, rfl⟩
        go_wp2_with (go_at_call 15; refine (num_any _ _).mono ?_; rintro e w2 ⟨rfl, rfl⟩)
        refine (HWK.out _).mono ?_
        rintro e w' ⟨rfl, hb⟩
        go_wp2_with fail
        go_ret
        exact ⟨rfl, below_trans HB1.out hb⟩
      · go_enter Tryd.func7, Tryd.ntmps7
        go_wp2_with fail
        go_loopw [3] (fun i wr => ∃ k : Nat, k ≤ n ∧ i = .int .i64 k ∧ wr = w) (fun i _ => n - (intOf i).toNat)
        case atStart => exact ⟨0, Nat.zero_le _, rfl, rfl⟩
        case round =>
          obtain ⟨k, hk, rfl, rfl⟩ := hrel
          by_cases hlt : k < n
          · have hk' : k < xs.length := by rw [HN.out]; exact hlt
            obtain ⟨b', off', e', hb', hcl⟩ := HR.out.get (k := k) (u := .string xs[k]) (by rw [List.getElem?_map, List.getElem?_eq_getElem hk']; rfl)
            cases e'
            have hxs : xs[k].size ≤ maxLen := HS.out _ (List.getElem_mem hk')
            unfold maxLen at hxs
            generalize xs[k] = x at hcl hxs
            by_cases h60 : 60 < x.size
            · go_wp2_with fail
              refine (HWK.out _).mono ?_
              rintro e w' ⟨rfl, hb⟩
              go_wp2_with fail
              go_ret
              exact ⟨rfl, hb⟩
            · go_wp2_with fail
              exact ⟨⟨k + 1, by omega, by go_num, by first | rfl | trivial⟩, by simp [intOf]; omega⟩
          · have hkn : k = n := by omega
            subst hkn
            go_wp2_with fail
            refine HJ.out.mono ?_
            rintro e w1 ⟨rfl, hb1⟩
            have HB1 := Lib.hid hb1
            clear hb1
            go_wp2_with fail
            refine (HRJ.out _ HB1.out).mono ?_
            rintro e w2 ⟨rfl, rfl⟩
            go_wp2_with (go_at_call 15; refine (num_any _ _).mono ?_; rintro e w2 ⟨rfl, rfl⟩)
            refine (HWK.out _).mono ?_
            rintro e w' ⟨rfl, hb⟩
            go_wp2_with fail
            go_ret
            exact ⟨rfl, below_trans HB1.out hb⟩
    · rw [hz] at HJ HRJ
      rw [hjp] at HJ HRJ
      have HC := Lib.hid (fun W => psplit_to (s := ofBytes (textP l)) hrt (by have : (ofBytes (textP l)).size = (textP l).length := rfl; omega) W)
      rw [HX.out.2] at HC
      simp only at HJ HRJ
      clear hz hjp hrt hl657
      generalize ofBytes (textP l) = jb at *
      rcases hA with rfl | ⟨b, off, rfl⟩
      · go_enter Tryd.func7, Tryd.ntmps7
        go_wp2_with fail
        refine wp_loop_rounds 1 ?_
        rw [rounds_succ]
        go_wp2_with fail
        refine HJ.out.mono ?_
        rintro e w1 ⟨rfl, hb1⟩
        have HB1 := Lib.hid hb1
        clear hb1
        go_wp2_with fail
        refine (HRJ.out _ HB1.out).mono ?_
        rintro e w2 ⟨rfl, rfl⟩
        go_wp2_with (go_at_call 15; refine (num_any _ _).mono ?_; rintro e w2 ⟨rfl, rfl⟩)
        refine (HC.out _).mono ?_
        rintro e w3 ⟨A3, c3, rfl, hc3, hm3, HR3, hb3⟩
        have HB3 := Lib.hid (below_trans HB1.out hb3)
        have HR3' : Hid (RowAt w3 A3 (xs.map .string)) := by
          have h := HR3.out
          rw [HX.out.1, List.map_map]; exact h
        clear hb3 HR3
        go_wp2_with fail
        refine (HTX.out _ HB3.out _ _ HR3'.out).mono ?_
        rintro e w4 ⟨rfl, hb4⟩
        have HB4 := Lib.hid (below_trans HB3.out hb4)
        clear hb4
        go_wp2_with (go_at_call 15; refine (num_any _ _).mono ?_; rintro e w2 ⟨rfl, rfl⟩)
        refine (HWK.out _).mono ?_
        rintro e w' ⟨rfl, hb⟩
        go_wp2_with fail
        go_ret
        exact ⟨rfl, below_trans HB4.out hb⟩
      · go_enter Tryd.func7, Tryd.ntmps7
        go_wp2_with fail
        go_loopw [3] (fun i wr => ∃ k : Nat, k ≤ n ∧ i = .int .i64 k ∧ wr = w) (fun i _ => n - (intOf i).toNat)
        case atStart => exact ⟨0, Nat.zero_le _, rfl, rfl⟩
        case round =>
          obtain ⟨k, hk, rfl, rfl⟩ := hrel
          by_cases hlt : k < n
          · have hk' : k < xs.length := by rw [HN.out]; exact hlt
            obtain ⟨b', off', e', hb', hcl⟩ := HR.out.get (k := k) (u := .string xs[k]) (by rw [List.getElem?_map, List.getElem?_eq_getElem hk']; rfl)
            cases e'
            have hxs : xs[k].size ≤ maxLen := HS.out _ (List.getElem_mem hk')
            unfold maxLen at hxs
            generalize xs[k] = x at hcl hxs
            by_cases h60 : 60 < x.size
            · go_wp2_with fail
              refine (HWK.out _).mono ?_
              rintro e w' ⟨rfl, hb⟩
              go_wp2_with fail
              go_ret
              exact ⟨rfl, hb⟩
            · go_wp2_with fail
              exact ⟨⟨k + 1, by omega, by go_num, by first | rfl | trivial⟩, by simp [intOf]; omega⟩
          · have hkn : k = n := by omega
            subst hkn
            go_wp2_with fail
            refine HJ.out.mono ?_
            rintro e w1 ⟨rfl, hb1⟩
            have HB1 := Lib.hid hb1
            clear hb1
            go_wp2_with fail
            refine (HRJ.out _ HB1.out).mono ?_
            rintro e w2 ⟨rfl, rfl⟩
            go_wp2_with (go_at_call 15; refine (num_any _ _).mono ?_; rintro e w2 ⟨rfl, rfl⟩)
            refine (HC.out _).mono ?_
            rintro e w3 ⟨A3, c3, rfl, hc3, hm3, HR3, hb3⟩
            have HB3 := Lib.hid (below_trans HB1.out hb3)
            have HR3' : Hid (RowAt w3 A3 (xs.map .string)) := by
              have h := HR3.out
              rw [HX.out.1, List.map_map]; exact h
            clear hb3 HR3
            go_wp2_with fail
            refine (HTX.out _ HB3.out _ _ HR3'.out).mono ?_
            rintro e w4 ⟨rfl, hb4⟩
            have HB4 := Lib.hid (below_trans HB3.out hb4)
            clear hb4
            go_wp2_with (go_at_call 15; refine (num_any _ _).mono ?_; rintro e w2 ⟨rfl, rfl⟩)
            refine (HWK.out _).mono ?_
            rintro e w' ⟨rfl, hb⟩
            go_wp2_with fail
            go_ret
            exact ⟨rfl, below_trans HB4.out hb⟩
end Go.Proofs.YtkhpdlaljepkjaaDoor
