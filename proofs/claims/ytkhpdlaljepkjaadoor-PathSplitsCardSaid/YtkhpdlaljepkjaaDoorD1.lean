/- The document's answers for paths: Texts, Split, Join, Parent, Within. Conditions: none. -/
import Derived.Test.YtkhpdlaljepkjaaDoorP1
import Derived.Laws.AppendOwn
namespace Go.Proofs.YtkhpdlaljepkjaaDoor
open Go.RowKit
attribute [local go_sem] Oper.semAt_some

set_option maxRecDepth 100000 in
set_option maxHeartbeats 1000000 in
theorem texts_any (xs ys : List ByteArray) (A B : Option Addr) (n m c d : Nat) (w : World) (hn : xs.length = n) (hn' : ys.length = m) (hm : n ≤ maxLen) (h : RowAt w A (xs.map .string)) (h' : RowAt w B (ys.map .string)) :
    Calls Tryd.prog 14 #[.slice A n c, .slice B m d] w fun e w' => e = .returned (.bool (eqL xs ys)) ∧ Below w.heap.size w w' := by
  unfold maxLen at hm
  have HN := Lib.hid hn
  have HN' := Lib.hid hn'
  have HR := Lib.hid h
  have HR' := Lib.hid h'
  clear hn h hn' h'
  by_cases hnm : n = m
  · subst hnm
    have hA : (n = 0 ∨ ((∃ b off, A = some ⟨b, off, none⟩) ∧ (∃ b off, B = some ⟨b, off, none⟩))) := by
      rcases Nat.eq_zero_or_pos n with h0 | h0
      · exact .inl h0
      · obtain ⟨b, off, e, _⟩ := HR.out (by rw [List.length_map, HN.out]; exact h0)
        obtain ⟨b', off', e', _⟩ := HR'.out (by rw [List.length_map, HN'.out]; exact h0)
        exact .inr ⟨⟨b, off, e⟩, ⟨b', off', e'⟩⟩
    rcases hA with h0 | ⟨⟨b, off, rfl⟩, ⟨b2, off2, rfl⟩⟩
    · have HX : Hid (eqL xs ys = true) := by
        rw [Hid, List.eq_nil_of_length_eq_zero (HN.out.trans h0), List.eq_nil_of_length_eq_zero (HN'.out.trans h0)]; rfl
      subst h0
      go_enter Tryd.func14, Tryd.ntmps14
      go_wp2_with fail
      refine wp_loop_rounds 1 ?_
      rw [rounds_succ]
      go_wp2_with fail
      go_ret
      exact ⟨by rw [HX.out]; rfl, Below.refl _ _⟩
    · go_enter Tryd.func14, Tryd.ntmps14
      go_wp2_with fail
      go_loopw [5] (fun i wr => ∃ k : Nat, k ≤ n ∧ i = .int .i64 k ∧ Below w.heap.size w wr ∧ Hid (xs.take k = ys.take k)) (fun i _ => n - (intOf i).toNat)
      case atStart => exact ⟨0, Nat.zero_le _, rfl, Below.refl _ _, Lib.hid (by simp)⟩
      case round =>
        obtain ⟨k, hk, rfl, hb, HP⟩ := hrel
        by_cases hlt : k < n
        · have hk' : k < xs.length := by rw [HN.out]; exact hlt
          have hk2 : k < ys.length := by rw [HN'.out]; exact hlt
          obtain ⟨b', off', e', hb', hc⟩ := HR.out.get (k := k) (u := .string xs[k]) (by rw [List.getElem?_map, List.getElem?_eq_getElem hk']; rfl)
          obtain ⟨b3, off3, e3, hb3, hc3⟩ := HR'.out.get (k := k) (u := .string ys[k]) (by rw [List.getElem?_map, List.getElem?_eq_getElem hk2]; rfl)
          have hc2 : wr.cell? ⟨b, off + k, none⟩ = some (.string xs[k]) := by
            cases e'
            rw [hb.cell (p := ⟨b, off + k, none⟩) hb']; exact hc
          have hc4 : wr.cell? ⟨b2, off2 + k, none⟩ = some (.string ys[k]) := by
            cases e3
            rw [hb.cell (p := ⟨b2, off2 + k, none⟩) hb3]; exact hc3
          have HD : Hid (xs.take (k + 1) = xs.take k ++ [xs[k]]) := List.take_succ_eq_append_getElem hk'
          have HD2 : Hid (ys.take (k + 1) = ys.take k ++ [ys[k]]) := List.take_succ_eq_append_getElem hk2
          generalize xs[k] = s at hc2 HD
          generalize ys[k] = s2 at hc4 HD2
          clear e' hc hb' e3 hc3 hb3
          have hr2 : (s.toList == s2.toList) = !(s.toList != s2.toList) := by simp [bne]
          cases hr : s.toList != s2.toList
          all_goals
            rw [hr] at hr2
            simp only [Bool.not_true, Bool.not_false] at hr2
          · have HE : Hid (xs.take (k + 1) = ys.take (k + 1)) := by
              rw [Hid, HD.out, HD2.out, HP.out, toList_inj (a := s) (b := s2) (by simpa using hr2)]
            go_wp2_with fail
            go_quiet (fail)
            go_wp2_with fail
            exact ⟨⟨k + 1, by omega, by go_num, below_drewN hb _, HE⟩, by simp [intOf]; omega⟩
          · have HE : Hid (eqL xs ys = false) := by
              rw [Hid, eqL, decide_eq_false_iff_not]; rintro rfl
              have := HD.out.symm.trans HD2.out
              have := List.append_cancel_left this
              simp at this; subst this; simp at hr2
            go_wp2_with fail
            go_quiet (fail)
            go_wp2_with fail
            go_ret
            exact ⟨by rw [HE.out]; rfl, by first | exact hb | exact below_drewN hb _⟩
        · have HE : Hid (eqL xs ys = true) := by
            have := HP.out
            rw [List.take_of_length_le (by rw [HN.out]; omega), List.take_of_length_le (by rw [HN'.out]; omega)] at this
            rw [Hid, eqL, decide_eq_true_iff]; exact this
          go_wp2_with fail
          go_ret
          exact ⟨by rw [HE.out]; rfl, hb⟩
  · have HX : Hid (eqL xs ys = false) := by
      rw [Hid, eqL, decide_eq_false_iff_not]; rintro rfl; exact hnm (HN.out.symm.trans HN'.out)
    have h1 : ((n : Int) != (m : Int)) = true := by simp; omega
    go_enter Tryd.func14, Tryd.ntmps14
    go_wp2_with fail
    go_ret
    exact ⟨by rw [HX.out]; rfl, Below.refl _ _⟩


theorem flat_textP {xs : List (List UInt8)} (h : xs ≠ []) : xs.flatMap (fun x => 47 :: x) = textP xs := by
  induction xs with
  | nil => exact absurd rfl h
  | cons x xs ih =>
    by_cases hx : xs = []
    · subst hx; simp [textP, joinL]
    · rw [List.flatMap_cons, ih hx, textP, textP, joinL_cons _ _ hx]; simp
theorem flat_take_succ (xs : List ByteArray) (k : Nat) (h : k < xs.length) : (xs.take (k + 1)).flatMap (fun x => 47 :: bytesOf x) = (xs.take k).flatMap (fun x => 47 :: bytesOf x) ++ 47 :: bytesOf xs[k] := by
  rw [List.take_succ_eq_append_getElem h]
  simp only [List.flatMap_append, List.flatMap_cons, List.flatMap_nil, List.append_nil]

set_option maxRecDepth 100000 in
set_option maxHeartbeats 1000000 in
theorem refjoin_any (xs : List ByteArray) (A : Option Addr) (n c : Nat) (w : World) (hn : xs.length = n) (hm : n ≤ maxLen) (hs : ∀ s ∈ xs, s.size ≤ maxLen) (h : RowAt w A (xs.map .string)) :
    Calls Tryd.prog 21 #[.slice A n c] w fun e w' => e = .returned (.tuple #[.string (ofBytes (joinP xs).1), .int .i64 (joinP xs).2]) ∧ w = w' := by
  unfold maxLen at hm
  have HR := Lib.hid h
  have HN := Lib.hid hn
  have HS := Lib.hid hs
  clear h hn hs
  by_cases h16 : 16 < n
  · have HJ : Hid (joinP xs = ([], 170)) := by
      rw [Hid, joinP, rightN_long (by rw [HN.out]; exact h16), if_neg (by decide)]
    go_enter Tryd.func21, Tryd.ntmps21
    go_wp2_with fail
    go_ret2
    exact ⟨by rw [HJ.out]; rfl, rfl⟩
  · have HJR : Hid (rightN xs = errB (xs.all rightS)) := rightN_fine (by rw [HN.out]; exact h16)
    rcases Nat.eq_zero_or_pos n with h0 | h0
    · subst h0
      have HX : Hid (xs = []) := List.eq_nil_of_length_eq_zero HN.out
      go_enter Tryd.func21, Tryd.ntmps21
      go_wp2_with fail
      refine wp_loop_rounds 1 ?_
      rw [rounds_succ]
      go_wp2_with fail
      go_ret2
      exact ⟨by rw [HX.out]; rfl, rfl⟩
    · obtain ⟨b, off, rfl, hbx⟩ := HR.out (by rw [List.length_map, HN.out]; exact h0)
      clear hbx
      go_enter Tryd.func21, Tryd.ntmps21
      go_wp2_with fail
      go_loopw [4, 5] (fun p i wr => ∃ (k : Nat) (q : ByteArray), k ≤ n ∧ i = .int .i64 k ∧ p = .string q ∧ wr = w ∧ q.size ≤ 41 * k ∧ Hid (bytesOf q = (xs.take k).flatMap (fun x => 47 :: bytesOf x) ∧ (xs.take k).all rightS = true)) (fun _ i _ => n - (intOf i).toNat)
      case atStart => exact ⟨0, _, Nat.zero_le _, rfl, rfl, rfl, Nat.zero_le _, rfl, rfl⟩
      case round =>
        obtain ⟨k, q, hk, rfl, rfl, rfl, hq, HP⟩ := hrel
        by_cases hlt : k < n
        · have hk' : k < xs.length := by rw [HN.out]; exact hlt
          obtain ⟨b', off', e', hb', hc⟩ := HR.out.get (k := k) (u := .string xs[k]) (by rw [List.getElem?_map, List.getElem?_eq_getElem hk']; rfl)
          cases e'
          have hxs : xs[k].size ≤ maxLen := HS.out _ (List.getElem_mem hk')
          unfold maxLen at hxs
          have HD : Hid ((xs.take (k + 1)).flatMap (fun x => 47 :: bytesOf x) = (xs.take k).flatMap (fun x => 47 :: bytesOf x) ++ 47 :: bytesOf xs[k]) := flat_take_succ xs k hk'
          have HAL : Hid ((xs.take (k + 1)).all rightS = ((xs.take k).all rightS && rightS xs[k])) := by
            rw [Hid, List.take_succ_eq_append_getElem hk', List.all_append]; simp
          have HM : Hid (xs.all rightS = true → rightS xs[k] = true) := fun h => List.all_eq_true.1 h _ (List.getElem_mem hk')
          generalize xs[k] = s at hc hxs HD HAL HM
          cases hr : rightS s
          · have HF : Hid (joinP xs = ([], 160)) := by
              have : xs.all rightS = false := by rw [Bool.eq_false_iff]; intro h; rw [HM.out h] at hr; cases hr
              rw [Hid, joinP, HJR.out, this, if_neg (by decide)]; rfl
            have HRT : Hid (rightB s.data.toList = false) := hr
            clear hr
            go_wp2_with (go_at_call 25; refine (refRight_any _ _ (by unfold maxLen; omega)).mono ?_; rintro e w' ⟨rfl, rfl⟩; rw [HRT.out])
            go_ret2
            exact ⟨by rw [HF.out]; rfl, rfl⟩
          · have HRT : Hid (rightB s.data.toList = true) := hr
            have hs40 : s.size ≤ 40 := right_len HRT.out
            clear hr
            go_wp2_with (go_at_call 25; refine (refRight_any _ _ (by unfold maxLen; omega)).mono ?_; rintro e w' ⟨rfl, rfl⟩; rw [HRT.out])
            go_roundw
            case rel => exact ⟨k + 1, _, by omega, by go_num, rfl, by first | rfl | trivial, by
              have h47 : (⟨#[47]⟩ : ByteArray).size = 1 := rfl
              first
                | omega
                | (simp; omega), by
              rw [Hid, HD.out, HAL.out, HP.out.2]
              refine ⟨?_, HRT.out⟩
              rw [bytesOf_append, bytesOf_append, HP.out.1, List.append_assoc]; rfl⟩
            case measure => simp [intOf]; omega
        · have hkn : k = n := by omega
          subst hkn
          have htk : xs.take xs.length = xs := List.take_length
          have HE : Hid (joinP xs = (bytesOf q, 0)) := by
            have h1 := HP.out.1
            have h2 := HP.out.2
            rw [← HN.out, htk] at h1 h2
            rw [Hid, joinP, HJR.out, h2, if_pos (show errB true = 0 from rfl), h1, ← flat_textP (by intro e; have := congrArg List.length e; rw [List.length_map, HN.out] at this; simp at this; omega), List.flatMap_map]
          have hne : (q.toList == []) = false := by
            have h1 := HP.out.1
            rw [← HN.out, htk] at h1
            rw [ByteArray.toList_eq, beq_eq_false_iff_ne]
            intro e
            rw [show q.data.toList = bytesOf q from rfl, h1] at e
            cases xs with
            | nil => have := HN.out; simp at this; omega
            | cons x xs => simp at e
          go_wp2_with fail
          go_ret2
          exact ⟨by rw [HE.out]; rfl, rfl⟩
end Go.Proofs.YtkhpdlaljepkjaaDoor
