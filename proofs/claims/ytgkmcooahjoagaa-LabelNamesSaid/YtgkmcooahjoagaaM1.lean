/- The contract of the document's answer on lists of texts. Conditions: none. -/
import Derived.Test.YtgkmcooahjoagaaW9
namespace Go.Proofs.Ytgkmcooahjoagaa
open Go.RowKit
attribute [local go_sem] Oper.semAt_some

theorem toList_inj {a b : ByteArray} (h : a.toList = b.toList) : a = b := by
  rw [ByteArray.toList_eq, ByteArray.toList_eq] at h
  cases a; cases b
  simp only [ByteArray.mk.injEq]
  exact Array.toList_inj.1 h
/-- Are two lists of texts one? -/
def eqL (xs ys : List ByteArray) : Bool := decide (xs = ys)

set_option maxRecDepth 100000 in
set_option maxHeartbeats 1000000 in
theorem texts_any (xs ys : List ByteArray) (A B : Option Addr) (n m c d : Nat) (w : World) (hn : xs.length = n) (hn' : ys.length = m) (hm : n ≤ maxLen) (h : RowAt w A (xs.map .string)) (h' : RowAt w B (ys.map .string)) :
    Calls Try.prog 13 #[.slice A n c, .slice B m d] w fun e w' => e = .returned (.bool (eqL xs ys)) ∧ Below w.heap.size w w' := by
  unfold maxLen at hm
  have HN := Lib.hid hn
  have HN' := Lib.hid hn'
  have HR := Lib.hid h
  have HR' := Lib.hid h'
  clear hn h hn' h'
  by_cases hnm : n = m
  · subst hnm
    have hA : (n = 0 ∨ ((∃ b off, A = some ⟨b, off, none⟩) ∧ (∃ b off, B = some ⟨b, off, none⟩))) := by
      rcases Nat.eq_zero_or_pos n with h0 | h0
      · exact .inl h0
      · obtain ⟨b, off, e, _⟩ := HR.out (by rw [List.length_map, HN.out]; exact h0)
        obtain ⟨b', off', e', _⟩ := HR'.out (by rw [List.length_map, HN'.out]; exact h0)
        exact .inr ⟨⟨b, off, e⟩, ⟨b', off', e'⟩⟩
    rcases hA with h0 | ⟨⟨b, off, rfl⟩, ⟨b2, off2, rfl⟩⟩
    · have HX : Hid (eqL xs ys = true) := by
        rw [Hid, List.eq_nil_of_length_eq_zero (HN.out.trans h0), List.eq_nil_of_length_eq_zero (HN'.out.trans h0)]; rfl
      subst h0
      go_enter Try.func13, Try.ntmps13
      go_wp2_with fail
      refine wp_loop_rounds 1 ?_
      rw [rounds_succ]
      go_wp2_with fail
      go_ret
      exact ⟨by rw [HX.out]; rfl, Below.refl _ _⟩
    · go_enter Try.func13, Try.ntmps13
      go_wp2_with fail
      go_loopw [5] (fun i wr => ∃ k : Nat, k ≤ n ∧ i = .int .i64 k ∧ Below w.heap.size w wr ∧ Hid (xs.take k = ys.take k)) (fun i _ => n - (intOf i).toNat)
      case atStart => exact ⟨0, Nat.zero_le _, rfl, Below.refl _ _, Lib.hid (by simp)⟩
      case round =>
        obtain ⟨k, hk, rfl, hb, HP⟩ := hrel
        by_cases hlt : k < n
        · have hk' : k < xs.length := by rw [HN.out]; exact hlt
          have hk2 : k < ys.length := by rw [HN'.out]; exact hlt
          obtain ⟨b', off', e', hb', hc⟩ := HR.out.get (k := k) (u := .string xs[k]) (by rw [List.getElem?_map, List.getElem?_eq_getElem hk']; rfl)
          obtain ⟨b3, off3, e3, hb3, hc3⟩ := HR'.out.get (k := k) (u := .string ys[k]) (by rw [List.getElem?_map, List.getElem?_eq_getElem hk2]; rfl)
          have hc2 : wr.cell? ⟨b, off + k, none⟩ = some (.string xs[k]) := by
            cases e'
            rw [hb.cell (p := ⟨b, off + k, none⟩) hb']; exact hc
          have hc4 : wr.cell? ⟨b2, off2 + k, none⟩ = some (.string ys[k]) := by
            cases e3
            rw [hb.cell (p := ⟨b2, off2 + k, none⟩) hb3]; exact hc3
          have HD : Hid (xs.take (k + 1) = xs.take k ++ [xs[k]]) := List.take_succ_eq_append_getElem hk'
          have HD2 : Hid (ys.take (k + 1) = ys.take k ++ [ys[k]]) := List.take_succ_eq_append_getElem hk2
          generalize xs[k] = s at hc2 HD
          generalize ys[k] = s2 at hc4 HD2
          clear e' hc hb' e3 hc3 hb3
          have hr2 : (s.toList == s2.toList) = !(s.toList != s2.toList) := by simp [bne]
          cases hr : s.toList != s2.toList
          all_goals
            rw [hr] at hr2
            simp only [Bool.not_true, Bool.not_false] at hr2
          · have HE : Hid (xs.take (k + 1) = ys.take (k + 1)) := by
              rw [Hid, HD.out, HD2.out, HP.out, toList_inj (a := s) (b := s2) (by simpa using hr2)]
            go_wp2_with fail
            go_quiet (fail)
            go_wp2_with fail
            exact ⟨⟨k + 1, by omega, by go_num, below_drewN hb _, HE⟩, by simp [intOf]; omega⟩
          · have HE : Hid (eqL xs ys = false) := by
              rw [Hid, eqL, decide_eq_false_iff_not]; rintro rfl
              have := HD.out.symm.trans HD2.out
              have := List.append_cancel_left this
              simp at this; subst this; simp at hr2
            go_wp2_with fail
            go_quiet (fail)
            go_wp2_with fail
            go_ret
            exact ⟨by rw [HE.out]; rfl, by first | exact hb | exact below_drewN hb _⟩
        · have HE : Hid (eqL xs ys = true) := by
            have := HP.out
            rw [List.take_of_length_le (by rw [HN.out]; omega), List.take_of_length_le (by rw [HN'.out]; omega)] at this
            rw [Hid, eqL, decide_eq_true_iff]; exact this
          go_wp2_with fail
          go_ret
          exact ⟨by rw [HE.out]; rfl, hb⟩
  · have HX : Hid (eqL xs ys = false) := by
      rw [Hid, eqL, decide_eq_false_iff_not]; rintro rfl; exact hnm (HN.out.symm.trans HN'.out)
    have h1 : ((n : Int) != (m : Int)) = true := by simp; omega
    go_enter Try.func13, Try.ntmps13
    go_wp2_with fail
    go_ret
    exact ⟨by rw [HX.out]; rfl, Below.refl _ _⟩
theorem map_encT (xs : List (List UInt8)) : xs.map encT = (xs.map ofBytes).map Value.string := by rw [List.map_map]; rfl
theorem ofBytes_list {xs ys : List (List UInt8)} (h : xs.map ofBytes = ys.map ofBytes) : xs = ys := by
  have := congrArg (List.map bytesOf) h
  rw [List.map_map, List.map_map] at this
  have e : (bytesOf ∘ ofBytes) = id := by funext x; rfl
  rw [e, List.map_id, List.map_id] at this
  exact this
theorem texts_of (xs ys : List (List UInt8)) (A B : Option Addr) (n m c d : Nat) (w : World) (hn : xs.length = n) (hn' : ys.length = m) (hm : n ≤ maxLen) (h : RowAt w A (xs.map encT)) (h' : RowAt w B (ys.map encT)) :
    Calls Try.prog 13 #[.slice A n c, .slice B m d] w fun e w' => e = .returned (.bool (decide (xs = ys))) ∧ Below w.heap.size w w' := by
  rw [map_encT] at h h'
  have := texts_any (xs.map ofBytes) (ys.map ofBytes) A B n m c d w (by rw [List.length_map, hn]) (by rw [List.length_map, hn']) hm h h'
  have e : eqL (xs.map ofBytes) (ys.map ofBytes) = decide (xs = ys) := by
    rw [eqL, Bool.eq_iff_iff, decide_eq_true_iff, decide_eq_true_iff]
    exact ⟨ofBytes_list, fun h => by rw [h]⟩
  rw [e] at this
  exact this
end Go.Proofs.Ytgkmcooahjoagaa
