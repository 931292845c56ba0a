/- The contracts of slices.Index, slices.Contains and slices.Equal at path.names; strings.Split at one byte. Conditions: none. -/
import Derived.Test.YtibpagmpdgflmaaGreatDoorZK7
import Derived.Test.YtibpagmpdgflmaaGreatDoorShelf
import Derived.Test.YtibpagmpdgflmaaGreatDoorS1
namespace Go.Proofs.YtibpagmpdgflmaaGreatDoor
open Go.RowKit

def eqS (a b : ByteArray) : Bool := a.toList == b.toList
theorem toList_inj {a b : ByteArray} (h : a.toList = b.toList) : a = b := by
  rw [ByteArray.toList_eq, ByteArray.toList_eq] at h
  cases a; cases b
  simp only [ByteArray.mk.injEq]
  exact Array.toList_inj.1 h
theorem eqS_iff (a b : ByteArray) : eqS a b = true ↔ a = b := by
  unfold eqS
  rw [beq_iff_eq]
  exact ⟨toList_inj, fun h => by rw [h]⟩
theorem eqS_no {a b : ByteArray} (h : a ≠ b) : eqS a b = false := by
  rw [Bool.eq_false_iff]; intro e; exact h ((eqS_iff _ _).1 e)
theorem eqS_comm (a b : ByteArray) : eqS a b = eqS b a := by
  rw [Bool.eq_iff_iff, eqS_iff, eqS_iff]; exact eq_comm

/-- The first place at which a text stands, or -1. -/
def idxS (v : ByteArray) : Nat → List ByteArray → Int
  | _, [] => -1
  | k, x :: xs => if eqS v x then k else idxS v (k + 1) xs
theorem idxS_ge (v : ByteArray) (xs : List ByteArray) : ∀ k, decide (0 ≤ idxS v k xs) = xs.any (eqS v) := by
  induction xs with
  | nil => intro k; rfl
  | cons x xs ih =>
    intro k
    simp only [idxS, List.any_cons]
    by_cases h : eqS v x = true
    · simp [h]
    · simp only [h, Bool.false_eq_true, if_false, Bool.false_or]; exact ih _
theorem idxS_le (v : ByteArray) (xs : List ByteArray) : ∀ k, -1 ≤ idxS v k xs ∧ idxS v k xs ≤ k + xs.length := by
  induction xs with
  | nil => intro k; simp [idxS]
  | cons x xs ih =>
    intro k
    simp only [idxS, List.length_cons]
    split
    · omega
    · have := ih (k + 1); omega

set_option maxRecDepth 100000 in
set_option maxHeartbeats 1000000 in
theorem index_any (v : ByteArray) (xs : List ByteArray) (A : Option Addr) (n c : Nat) (w : World) (hn : xs.length = n) (hm : n ≤ maxLen) (h : RowAt w A (xs.map .string)) :
    Calls Tryz.prog 212 #[.slice A n c, .string v] w fun e w' => e = .returned (.int .i64 (idxS v 0 xs)) ∧ w = w' := by
  unfold maxLen at hm
  have HN := Lib.hid hn
  have HR := Lib.hid h
  clear hn h
  have hA : (n = 0 ∨ ∃ b off, A = some ⟨b, off, none⟩) := by
    rcases Nat.eq_zero_or_pos n with h0 | h0
    · exact .inl h0
    · obtain ⟨b, off, e, _⟩ := HR.out (by rw [List.length_map, HN.out]; exact h0)
      exact .inr ⟨b, off, e⟩
  rcases hA with h0 | ⟨b, off, rfl⟩
  · have HX : Hid (xs = []) := List.eq_nil_of_length_eq_zero (HN.out.trans h0)
    subst h0
    go_enter Tryz.func212, Tryz.ntmps212
    go_wp2_with fail
    refine wp_loop_rounds 1 ?_
    rw [rounds_succ]
    go_wp2_with fail
    go_ret
    exact ⟨by rw [HX.out]; rfl, rfl⟩
  · go_enter Tryz.func212, Tryz.ntmps212
    go_wp2_with fail
    go_loop [8] (fun i => ∃ k : Nat, k ≤ n ∧ i = .int .i64 k ∧ Hid (idxS v 0 xs = idxS v k (xs.drop k))) (fun i => n - (intOf i).toNat)
    case atStart => exact ⟨0, Nat.zero_le _, rfl, Lib.hid (by simp)⟩
    case round =>
      obtain ⟨k, hk, rfl, HP⟩ := hrel
      by_cases hlt : k < n
      · have hk' : k < xs.length := by rw [HN.out]; exact hlt
        obtain ⟨b', off', e', hb', hc⟩ := HR.out.get (k := k) (u := .string xs[k]) (by rw [List.getElem?_map, List.getElem?_eq_getElem hk']; rfl)
        have hc2 : w.cell? ⟨b, off + k, none⟩ = some (.string xs[k]) := by
          cases e'
          exact hc
        have HD : Hid (xs.drop k = xs[k] :: xs.drop (k + 1)) := List.drop_eq_getElem_cons hk'
        generalize xs[k] = s at hc2 HD
        clear e' hc hb'
        cases hr : v.toList == s.toList
        · have HE : Hid (idxS v 0 xs = idxS v (k + 1) (xs.drop (k + 1))) := by
            rw [Hid, HP.out, HD.out]; simp only [idxS, eqS, hr]; rfl
          go_wp2_with fail
          go_round
          case rel => exact ⟨k + 1, by omega, by go_num, HE⟩
          case measure => simp [intOf]; omega
        · have HE : Hid (idxS v 0 xs = k) := by
            rw [Hid, HP.out, HD.out]; simp only [idxS, eqS, hr]; rfl
          go_wp2_with fail
          go_ret
          exact ⟨by rw [HE.out]; rfl, rfl⟩
      · have HE : Hid (idxS v 0 xs = -1) := by
          rw [Hid, HP.out, List.drop_eq_nil_of_le (by rw [HN.out]; omega)]; rfl
        go_wp2_with fail
        go_ret
        exact ⟨by rw [HE.out]; rfl, rfl⟩

set_option maxRecDepth 100000 in
theorem contains_any (v : ByteArray) (xs : List ByteArray) (A : Option Addr) (n c : Nat) (w : World) (hn : xs.length = n) (hm : n ≤ maxLen) (h : RowAt w A (xs.map .string)) :
    Calls Tryz.prog 200 #[.slice A n c, .string v] w fun e w' => e = .returned (.bool (xs.any (eqS v))) ∧ w = w' := by
  have hc := index_any v xs A n c w hn hm h
  have hle := idxS_le v xs 0
  have HE : Hid (decide (0 ≤ idxS v 0 xs) = xs.any (eqS v)) := idxS_ge v xs 0
  clear hn h
  generalize idxS v 0 xs = z at *
  have HC := Lib.hid hc
  clear hc
  go_enter Tryz.func200, Tryz.ntmps200
  go_wp2_with fail
  refine HC.out.mono ?_
  rintro e w' ⟨rfl, rfl⟩
  go_wp2_with fail
  go_ret
  exact ⟨by rw [← HE.out]; rfl, rfl⟩

/-- Are two lists of texts one? -/
def eqL (xs ys : List ByteArray) : Bool := decide (xs = ys)

set_option maxRecDepth 100000 in
set_option maxHeartbeats 1000000 in
theorem equal_any (xs ys : List ByteArray) (A B : Option Addr) (n m c d : Nat) (w : World) (hn : xs.length = n) (hn' : ys.length = m) (hm : n ≤ maxLen) (h : RowAt w A (xs.map .string)) (h' : RowAt w B (ys.map .string)) :
    Calls Tryz.prog 178 #[.slice A n c, .slice B m d] w fun e w' => e = .returned (.bool (eqL xs ys)) ∧ Below w.heap.size w w' := by
  unfold maxLen at hm
  have HN := Lib.hid hn
  have HN' := Lib.hid hn'
  have HR := Lib.hid h
  have HR' := Lib.hid h'
  clear hn h hn' h'
  by_cases hnm : n = m
  · subst hnm
    have hA : (n = 0 ∨ ((∃ b off, A = some ⟨b, off, none⟩) ∧ (∃ b off, B = some ⟨b, off, none⟩))) := by
      rcases Nat.eq_zero_or_pos n with h0 | h0
      · exact .inl h0
      · obtain ⟨b, off, e, _⟩ := HR.out (by rw [List.length_map, HN.out]; exact h0)
        obtain ⟨b', off', e', _⟩ := HR'.out (by rw [List.length_map, HN'.out]; exact h0)
        exact .inr ⟨⟨b, off, e⟩, ⟨b', off', e'⟩⟩
    rcases hA with h0 | ⟨⟨b, off, rfl⟩, ⟨b2, off2, rfl⟩⟩
    · have HX : Hid (eqL xs ys = true) := by
        rw [Hid, List.eq_nil_of_length_eq_zero (HN.out.trans h0), List.eq_nil_of_length_eq_zero (HN'.out.trans h0)]; rfl
      subst h0
      go_enter Tryz.func178, Tryz.ntmps178
      go_wp2_with fail
      refine wp_loop_rounds 1 ?_
      rw [rounds_succ]
      go_wp2_with fail
      go_ret
      exact ⟨by rw [HX.out]; rfl, Below.refl _ _⟩
    · go_enter Tryz.func178, Tryz.ntmps178
      go_wp2_with fail
      go_loopw [13] (fun i wr => ∃ k : Nat, k ≤ n ∧ i = .int .i64 k ∧ Below w.heap.size w wr ∧ Hid (xs.take k = ys.take k)) (fun i _ => n - (intOf i).toNat)
      case atStart => exact ⟨0, Nat.zero_le _, rfl, Below.refl _ _, Lib.hid (by simp)⟩
      case round =>
        obtain ⟨k, hk, rfl, hb, HP⟩ := hrel
        by_cases hlt : k < n
        · have hk' : k < xs.length := by rw [HN.out]; exact hlt
          have hk2 : k < ys.length := by rw [HN'.out]; exact hlt
          obtain ⟨b', off', e', hb', hc⟩ := HR.out.get (k := k) (u := .string xs[k]) (by rw [List.getElem?_map, List.getElem?_eq_getElem hk']; rfl)
          obtain ⟨b3, off3, e3, hb3, hc3⟩ := HR'.out.get (k := k) (u := .string ys[k]) (by rw [List.getElem?_map, List.getElem?_eq_getElem hk2]; rfl)
          have hc2 : wr.cell? ⟨b, off + k, none⟩ = some (.string xs[k]) := by
            cases e'
            rw [hb.cell (p := ⟨b, off + k, none⟩) hb']; exact hc
          have hc4 : wr.cell? ⟨b2, off2 + k, none⟩ = some (.string ys[k]) := by
            cases e3
            rw [hb.cell (p := ⟨b2, off2 + k, none⟩) hb3]; exact hc3
          have HD : Hid (xs.take (k + 1) = xs.take k ++ [xs[k]]) := List.take_succ_eq_append_getElem hk'
          have HD2 : Hid (ys.take (k + 1) = ys.take k ++ [ys[k]]) := List.take_succ_eq_append_getElem hk2
          generalize xs[k] = s at hc2 HD
          generalize ys[k] = s2 at hc4 HD2
          clear e' hc hb' e3 hc3 hb3
          have hr2 : (s.toList == s2.toList) = !(s.toList != s2.toList) := by simp [bne]
          cases hr : s.toList != s2.toList
          all_goals
            rw [hr] at hr2
            simp only [Bool.not_true, Bool.not_false] at hr2
          · have HE : Hid (xs.take (k + 1) = ys.take (k + 1)) := by
              rw [Hid, HD.out, HD2.out, HP.out, toList_inj (a := s) (b := s2) (by simpa using hr2)]
            go_wp2_with fail
            go_quiet (fail)
            go_wp2_with fail
            exact ⟨⟨k + 1, by omega, by go_num, below_drewN hb _, HE⟩, by simp [intOf]; omega⟩
          · have HE : Hid (eqL xs ys = false) := by
              rw [Hid, eqL, decide_eq_false_iff_not]; rintro rfl
              have := HD.out.symm.trans HD2.out
              have := List.append_cancel_left this
              simp at this; subst this; simp at hr2
            go_wp2_with fail
            go_quiet (fail)
            go_wp2_with fail
            go_ret
            exact ⟨by rw [HE.out]; rfl, by first | exact hb | exact below_drewN hb _⟩
        · have HE : Hid (eqL xs ys = true) := by
            have := HP.out
            rw [List.take_of_length_le (by rw [HN.out]; omega), List.take_of_length_le (by rw [HN'.out]; omega)] at this
            rw [Hid, eqL, decide_eq_true_iff]; exact this
          go_wp2_with fail
          go_ret
          exact ⟨by rw [HE.out]; rfl, hb⟩
  · have HX : Hid (eqL xs ys = false) := by
      rw [Hid, eqL, decide_eq_false_iff_not]; rintro rfl; exact hnm (HN.out.symm.trans HN'.out)
    have h1 : ((n : Int) != (m : Int)) = true := by simp; omega
    go_enter Tryz.func178, Tryz.ntmps178
    go_wp2_with fail
    go_ret
    exact ⟨by rw [HX.out]; rfl, Below.refl _ _⟩

theorem split_one (s : ByteArray) (c : UInt8) (w : World) (hs : s.size < 4294967281) :
    Calls Tryz.prog 199 #[.string s, .string ⟨#[c]⟩] w fun e w' =>
      e = .returned (.slice (some ⟨w.heap.size, 0, none⟩) (Lib.countB s ⟨#[c]⟩ + 1) (Lib.countB s ⟨#[c]⟩ + 1)) ∧ w' = w.alloc (.cells ((Lib.splitB ⟨#[c]⟩ 0 (Lib.countB s ⟨#[c]⟩) s).map Value.string).toArray 9) := by
  have h1 : 1 ≤ (⟨#[c]⟩ : ByteArray).size := Nat.le_refl _
  have hle := Lib.countB_le ⟨#[c]⟩ h1 s.size s (Nat.le_refl _)
  have hlen := Lib.splitB_all ⟨#[c]⟩ h1 0 _ s rfl
  have cc := Any.strings_genSplit_core (P := Tryz.prog) { Tryz.lays221 with } (by kernel_rfl) s ⟨#[c]⟩ 0 (-1) (Lib.countB s ⟨#[c]⟩ + 1) w hs h1 (Nat.zero_le _)
    (fun x cs _ => by
      refine (Tryz.strings_Index_one x c _).mono fun e w' ⟨he, hw⟩ => ⟨?_, hw⟩
      rw [he, ← Lib.index_one])
    (by
      refine (Tryz.strings_Count_one s c w).mono fun e w' ⟨he, hw⟩ => ⟨?_, hw⟩
      rw [he]
      show _ = Ending.returned (Value.int .i64 ((Lib.count s.data.toList [c] : Nat) : Int))
      rw [Lib.count_one]
      rfl) (by decide) (by decide) (by rw [if_pos (by decide)]; omega)
  rw [Nat.add_sub_cancel, hlen] at cc
  have e2 : Lib.cellsOf (Lib.splitB ⟨#[c]⟩ 0 (Lib.countB s ⟨#[c]⟩) s) (Lib.countB s ⟨#[c]⟩ + 1) = ((Lib.splitB ⟨#[c]⟩ 0 (Lib.countB s ⟨#[c]⟩) s).map Value.string).toArray := by
    conv => lhs; rw [← hlen]
    exact Lib.cellsOf_full _
  rw [e2] at cc
  clear e2
  have HC := Lib.hid cc
  clear cc hlen hle
  go_enter Tryz.func199, Tryz.ntmps199
  go_wp2_with fail
  refine HC.out.mono ?_
  rintro e w' ⟨rfl, rfl⟩
  go_wp2_with fail
  go_ret
  exact ⟨rfl, rfl⟩

def SplitPost (s : ByteArray) (c : UInt8) (w : World) (e : Ending) (w' : World) : Prop :=
  ∃ (xs : List ByteArray) (n : Nat), e = .returned (.slice (some ⟨w.heap.size, 0, none⟩) n n) ∧ Hid (xs.length = n) ∧ n ≤ s.size + 1 ∧ Hid (xs.map bytesOf = splitL c (bytesOf s)) ∧ w' = w.alloc (.cells (xs.map Value.string).toArray 9)
theorem split_any (s : ByteArray) (c : UInt8) (w : World) (hs : s.size < 4294967281) :
    Calls Tryz.prog 199 #[.string s, .string ⟨#[c]⟩] w (SplitPost s c w) :=
  (split_one s c w hs).mono fun e w' ⟨he, hw⟩ => by
    have h1 : 1 ≤ (⟨#[c]⟩ : ByteArray).size := Nat.le_refl _
    have hlen := Lib.splitB_all ⟨#[c]⟩ h1 0 _ s rfl
    have hle := Lib.countB_le ⟨#[c]⟩ h1 s.size s (Nat.le_refl _)
    exact ⟨_, _, he, Lib.hid hlen, by omega, Lib.hid (splitB_eq c _ s rfl), hw⟩
theorem rowAt_new (w : World) (xs : List Value) (t : TypeId) : RowAt (w.alloc (.cells xs.toArray t)) (some ⟨w.heap.size, 0, none⟩) xs := fun _ =>
  ⟨_, _, rfl, by simp, fun k u hu => by
    rw [cell_of_row _ _ _ xs.toArray t (0, 0) (heap_alloc_new w _)]
    simpa using hu⟩
end Go.Proofs.YtibpagmpdgflmaaGreatDoor
