/- The contract of label.Check: which texts are names. Conditions: none. -/
import Derived.Test.YtgkmcooahjoagaaB1
namespace Go.Proofs.Ytgkmcooahjoagaa
open Go.RowKit Go.Shelf
attribute [local go_sem] Oper.semAt_some

theorem letters_any (s : ByteArray) (w : World) :
    Calls Try.prog 44 #[.string s] w fun e w' => e = .returned (.func (.func 54) #[] #[.pointer (some ⟨w.heap.size, 0, none⟩)]) ∧ w' = w.alloc (.cells #[.string s] 51) := by
  go_enter Try.func44, Try.ntmps44
  go_wp2
  go_ret
  exact ⟨rfl, rfl⟩

theorem letters_stops (n Bn : Nat) (s : ByteArray) (w : World) (hn : 1 ≤ n) (hB : Bn < w.heap.size) (hc : w.cell? ⟨Bn, 0, none⟩ = some (.string s)) :
    SeqStopsK Fence.wide n Try.prog 54 #[.pointer (some ⟨Bn, 0, none⟩)] (fun r : Nat => #[Value.int .i32 r]) KeepsWalks (fun xs => xs.all okRune = s.data.toList.all okByte) (fun pre => pre.all okRune = false → s.data.toList.all okByte = false) s.size w :=
  fun l J Jx W hW hJ _ hY h0 => letters1_in Fence.wide n trivial rfl hn l Bn s J Jx W hJ hY ((hW.cell (p := ⟨Bn, 0, none⟩) hB).trans hc) h0

/-- All but the letters. -/
def headB (s : ByteArray) : Bool := decide (1 ≤ s.size) && decide (s.size ≤ 40) && !(s.data.toList == [46]) && !(s.data.toList == [46, 46])
theorem rightB_eq (s : ByteArray) : rightB s.data.toList = (headB s && s.data.toList.all okByte) := rfl

theorem okRune_cases (x : Nat) : (¬ (x : Int) < 33 ∧ ¬ 126 < (x : Int) ∧ ((x : Int) == 47) = false ∧ Hid (okRune x = true)) ∨ ((x : Int) < 33 ∧ Hid (okRune x = false)) ∨ (¬ (x : Int) < 33 ∧ 126 < (x : Int) ∧ Hid (okRune x = false)) ∨ (¬ (x : Int) < 33 ∧ ¬ 126 < (x : Int) ∧ ((x : Int) == 47) = true ∧ Hid (okRune x = false)) := by
  have e : ((x : Int) == 47) = decide (x = 47) := by
    rw [Bool.eq_iff_iff]; simp; omega
  rw [e]
  by_cases h1 : 33 ≤ x <;> by_cases h2 : x ≤ 126 <;> by_cases h3 : x = 47 <;> simp [okRune, Hid, h1, h2, h3] <;> omega

/-- What the loop over the letters keeps. -/
def RightI (fb : Bool) (w : World) (pre : List Nat) (W : World) : Prop :=
  (Boxed W (w.heap.size + 1) 4 (.bool fb) ∧ pre.all okRune = true) ∧ Below w.heap.size w W
def RightIx (w : World) (c : Code) (pre : List Nat) (W : World) : Prop :=
  (Boxed W (w.heap.size + 1) 4 (.bool false) ∧ pre.all okRune = false ∧ c = .exit 0) ∧ Below w.heap.size w W

set_option maxRecDepth 100000 in
set_option maxHeartbeats 2000000 in
theorem right_any (s : ByteArray) (w : World) (hs : s.size ≤ maxLen) :
    Calls Try.prog 29 #[.agg #[.string s]] w fun e w' => e = .returned (.bool (rightB s.data.toList)) ∧ Below w.heap.size w w' := by
  unfold maxLen at hs
  have hdec : (¬ 1 ≤ s.size ∧ Hid (headB s = false)) ∨ (1 ≤ s.size ∧ ¬ s.size ≤ 40 ∧ Hid (headB s = false)) ∨ (1 ≤ s.size ∧ s.size ≤ 40 ∧ (s.toList == [46]) = true ∧ (s.toList != [46]) = false ∧ Hid (headB s = false)) ∨ (1 ≤ s.size ∧ s.size ≤ 40 ∧ (s.toList == [46]) = false ∧ (s.toList != [46]) = true ∧ (s.toList == [46, 46]) = true ∧ (s.toList != [46, 46]) = false ∧ Hid (headB s = false)) ∨ (1 ≤ s.size ∧ s.size ≤ 40 ∧ (s.toList == [46]) = false ∧ (s.toList != [46]) = true ∧ (s.toList == [46, 46]) = false ∧ (s.toList != [46, 46]) = true ∧ Hid (headB s = true)) := by
    unfold headB Hid
    rw [ByteArray.toList_eq]
    by_cases h1 : 1 ≤ s.size <;> by_cases h2 : s.size ≤ 40 <;> by_cases h3 : s.data.toList = [46] <;> by_cases h4 : s.data.toList = [46, 46] <;> simp [h1, h2, h3, h4]
  refine calls_of_wp_marks Try.func29 rfl ?_
  simp only [Try.ntmps29, List.size_toArray, List.length_cons, List.length_nil, Nat.reduceAdd, Nat.reduceSub, Array.replicate_succ, Array.replicate_zero, List.push_toArray, List.append_toArray, List.nil_append, List.cons_append]
  rcases hdec with ⟨h1, HH⟩ | ⟨h1, h2, HH⟩ | ⟨h1, h2, h3, g3, HH⟩ | ⟨h1, h2, h3, g3, h4, g4, HH⟩ | ⟨h1, h2, h3, g3, h4, g4, HH⟩
  all_goals
    go_wp2
    apply wp_scope_straight
    go_wp2_with (first | go_step3 | (go_at_call 44; refine (letters_any _ _).mono ?_; rintro e w' ⟨rfl, rfl⟩))
  · have bS : Boxed (((w.alloc (.cells #[.string s] 65)).alloc (.cells #[.bool false] 4)).alloc (.cells #[.string s] 51)) (w.heap.size + 1) 4 (.bool false) := by
      have := (Boxed.new (w.alloc (.cells #[.string s] 65)) 4 (.bool false)).alloc (.cells #[.string s] 51)
      simpa using this
    have hB0 : Below w.heap.size w (((w.alloc (.cells #[.string s] 65)).alloc (.cells #[.bool false] 4)).alloc (.cells #[.string s] 51)) := (((Below.refl _ w).alloc (Nat.le_refl _) _).alloc (by simp) _).alloc (by simp; omega) _
    have bT := Boxed.new ((w.alloc (.cells #[.string s] 65)).alloc (.cells #[.bool false] 4)) 51 (.string s)
    have hsz : (((w.alloc (.cells #[.string s] 65)).alloc (.cells #[.bool false] 4)).alloc (.cells #[.string s] 51)).heap.size = w.heap.size + 3 := by simp
    simp only [World.size_alloc] at bT
    generalize hW0 : ((w.alloc (.cells #[.string s] 65)).alloc (.cells #[.bool false] 4)).alloc (.cells #[.string s] 51) = W0 at *
    clear hW0
    refine wp_rangeFunc_fix (gf := 54) (lb := #[.pointer (some ⟨w.heap.size + 1 + 1, 0, none⟩)]) rfl (enters_of Try.func54 (by kernel_rfl) rfl)
      (letters_stops 8 (w.heap.size + 1 + 1) s W0 (by omega) (by omega) bT.cell) walksK_t KeepsWalks.refl walksK_b (Below.refl _ _) (fun _ => rfl)
      (RightI false w) (RightIx w)
      (OwnFrom.and (OwnFrom.and (Own.from (boxed_own _ _ _) _) (ownFrom_pure _ _)) (ownFrom_below (Nat.le_refl _) (by omega)))
      (fun c => OwnFrom.and (OwnFrom.and (Own.from (boxed_own _ _ _) _) (ownFrom_pure _ _)) (ownFrom_below (Nat.le_refl _) (by omega)))
      ⟨⟨bS, rfl⟩, hB0⟩
      ?_ ?_ ?_ ?_ ?_
    rotate_left
    · intro l x W K hK
      gi_wp2
      exact hK
    · rintro l pre x W hl _ ⟨⟨bS1, hp⟩, hB1⟩ _
      have HP := Lib.hid hp
      clear hp
      have cS := bS1.cell
      have fS := bS1.frozen
      rcases okRune_cases x with ⟨h1', h2', h3', HX⟩ | ⟨h1', HX⟩ | ⟨h1', h2', HX⟩ | ⟨h1', h2', h3', HX⟩
      · gi_wp2
        exact ⟨KeepsFrom.refl _ _, KeepsWalks.refl _, ⟨bS1, by simp [HP.out, HX.out]⟩, hB1⟩
      all_goals
        gi_wp2
        first | (exfalso; omega) | exact ⟨(KeepsOthers.setCell _ _ _).from _, ⟨bS1.set _, by simp [HX.out], rfl⟩, hB1.setCell (p := ⟨w.heap.size + 1, 0, none⟩) (by simp) _⟩
    · rintro D xs W hD hS ⟨⟨bS1, hp⟩, hB1⟩ hK
      have cS := bS1.cell
      have HS := Lib.hid hS
      have HP := Lib.hid hp
      clear hS hp
      go_wp2
      refine ret_mark hK (results_tmp rfl _ _ _) ⟨?_, below_mark hB1 (by omega) hK⟩
      rw [rightB_eq, HH.out, ← HS.out, HP.out]; rfl
    · rintro D c pre W hD hS ⟨⟨bS1, hp, rfl⟩, hB1⟩ hK
      have cS := bS1.cell
      have HS := Lib.hid (hS hp)
      clear hS hp
      go_wp2
      refine ret_mark hK (results_tmp rfl _ _ _) ⟨?_, below_mark hB1 (by omega) hK⟩
      rw [rightB_eq, HS.out, Bool.and_false]; rfl
  · have bS : Boxed (((w.alloc (.cells #[.string s] 65)).alloc (.cells #[.bool false] 4)).alloc (.cells #[.string s] 51)) (w.heap.size + 1) 4 (.bool false) := by
      have := (Boxed.new (w.alloc (.cells #[.string s] 65)) 4 (.bool false)).alloc (.cells #[.string s] 51)
      simpa using this
    have hB0 : Below w.heap.size w (((w.alloc (.cells #[.string s] 65)).alloc (.cells #[.bool false] 4)).alloc (.cells #[.string s] 51)) := (((Below.refl _ w).alloc (Nat.le_refl _) _).alloc (by simp) _).alloc (by simp; omega) _
    have bT := Boxed.new ((w.alloc (.cells #[.string s] 65)).alloc (.cells #[.bool false] 4)) 51 (.string s)
    have hsz : (((w.alloc (.cells #[.string s] 65)).alloc (.cells #[.bool false] 4)).alloc (.cells #[.string s] 51)).heap.size = w.heap.size + 3 := by simp
    simp only [World.size_alloc] at bT
    generalize hW0 : ((w.alloc (.cells #[.string s] 65)).alloc (.cells #[.bool false] 4)).alloc (.cells #[.string s] 51) = W0 at *
    clear hW0
    refine wp_rangeFunc_fix (gf := 54) (lb := #[.pointer (some ⟨w.heap.size + 1 + 1, 0, none⟩)]) rfl (enters_of Try.func54 (by kernel_rfl) rfl)
      (letters_stops 8 (w.heap.size + 1 + 1) s W0 (by omega) (by omega) bT.cell) walksK_t KeepsWalks.refl walksK_b (Below.refl _ _) (fun _ => rfl)
      (RightI false w) (RightIx w)
      (OwnFrom.and (OwnFrom.and (Own.from (boxed_own _ _ _) _) (ownFrom_pure _ _)) (ownFrom_below (Nat.le_refl _) (by omega)))
      (fun c => OwnFrom.and (OwnFrom.and (Own.from (boxed_own _ _ _) _) (ownFrom_pure _ _)) (ownFrom_below (Nat.le_refl _) (by omega)))
      ⟨⟨bS, rfl⟩, hB0⟩
      ?_ ?_ ?_ ?_ ?_
    rotate_left
    · intro l x W K hK
      gi_wp2
      exact hK
    · rintro l pre x W hl _ ⟨⟨bS1, hp⟩, hB1⟩ _
      have HP := Lib.hid hp
      clear hp
      have cS := bS1.cell
      have fS := bS1.frozen
      rcases okRune_cases x with ⟨h1', h2', h3', HX⟩ | ⟨h1', HX⟩ | ⟨h1', h2', HX⟩ | ⟨h1', h2', h3', HX⟩
      · gi_wp2
        exact ⟨KeepsFrom.refl _ _, KeepsWalks.refl _, ⟨bS1, by simp [HP.out, HX.out]⟩, hB1⟩
      all_goals
        gi_wp2
        first | (exfalso; omega) | exact ⟨(KeepsOthers.setCell _ _ _).from _, ⟨bS1.set _, by simp [HX.out], rfl⟩, hB1.setCell (p := ⟨w.heap.size + 1, 0, none⟩) (by simp) _⟩
    · rintro D xs W hD hS ⟨⟨bS1, hp⟩, hB1⟩ hK
      have cS := bS1.cell
      have HS := Lib.hid hS
      have HP := Lib.hid hp
      clear hS hp
      go_wp2
      refine ret_mark hK (results_tmp rfl _ _ _) ⟨?_, below_mark hB1 (by omega) hK⟩
      rw [rightB_eq, HH.out, ← HS.out, HP.out]; rfl
    · rintro D c pre W hD hS ⟨⟨bS1, hp, rfl⟩, hB1⟩ hK
      have cS := bS1.cell
      have HS := Lib.hid (hS hp)
      clear hS hp
      go_wp2
      refine ret_mark hK (results_tmp rfl _ _ _) ⟨?_, below_mark hB1 (by omega) hK⟩
      rw [rightB_eq, HS.out, Bool.and_false]; rfl
  · have bS : Boxed (((w.alloc (.cells #[.string s] 65)).alloc (.cells #[.bool false] 4)).alloc (.cells #[.string s] 51)) (w.heap.size + 1) 4 (.bool false) := by
      have := (Boxed.new (w.alloc (.cells #[.string s] 65)) 4 (.bool false)).alloc (.cells #[.string s] 51)
      simpa using this
    have hB0 : Below w.heap.size w (((w.alloc (.cells #[.string s] 65)).alloc (.cells #[.bool false] 4)).alloc (.cells #[.string s] 51)) := (((Below.refl _ w).alloc (Nat.le_refl _) _).alloc (by simp) _).alloc (by simp; omega) _
    have bT := Boxed.new ((w.alloc (.cells #[.string s] 65)).alloc (.cells #[.bool false] 4)) 51 (.string s)
    have hsz : (((w.alloc (.cells #[.string s] 65)).alloc (.cells #[.bool false] 4)).alloc (.cells #[.string s] 51)).heap.size = w.heap.size + 3 := by simp
    simp only [World.size_alloc] at bT
    generalize hW0 : ((w.alloc (.cells #[.string s] 65)).alloc (.cells #[.bool false] 4)).alloc (.cells #[.string s] 51) = W0 at *
    clear hW0
    refine wp_rangeFunc_fix (gf := 54) (lb := #[.pointer (some ⟨w.heap.size + 1 + 1, 0, none⟩)]) rfl (enters_of Try.func54 (by kernel_rfl) rfl)
      (letters_stops 8 (w.heap.size + 1 + 1) s W0 (by omega) (by omega) bT.cell) walksK_t KeepsWalks.refl walksK_b (Below.refl _ _) (fun _ => rfl)
      (RightI false w) (RightIx w)
      (OwnFrom.and (OwnFrom.and (Own.from (boxed_own _ _ _) _) (ownFrom_pure _ _)) (ownFrom_below (Nat.le_refl _) (by omega)))
      (fun c => OwnFrom.and (OwnFrom.and (Own.from (boxed_own _ _ _) _) (ownFrom_pure _ _)) (ownFrom_below (Nat.le_refl _) (by omega)))
      ⟨⟨bS, rfl⟩, hB0⟩
      ?_ ?_ ?_ ?_ ?_
    rotate_left
    · intro l x W K hK
      gi_wp2
      exact hK
    · rintro l pre x W hl _ ⟨⟨bS1, hp⟩, hB1⟩ _
      have HP := Lib.hid hp
      clear hp
      have cS := bS1.cell
      have fS := bS1.frozen
      rcases okRune_cases x with ⟨h1', h2', h3', HX⟩ | ⟨h1', HX⟩ | ⟨h1', h2', HX⟩ | ⟨h1', h2', h3', HX⟩
      · gi_wp2
        exact ⟨KeepsFrom.refl _ _, KeepsWalks.refl _, ⟨bS1, by simp [HP.out, HX.out]⟩, hB1⟩
      all_goals
        gi_wp2
        first | (exfalso; omega) | exact ⟨(KeepsOthers.setCell _ _ _).from _, ⟨bS1.set _, by simp [HX.out], rfl⟩, hB1.setCell (p := ⟨w.heap.size + 1, 0, none⟩) (by simp) _⟩
    · rintro D xs W hD hS ⟨⟨bS1, hp⟩, hB1⟩ hK
      have cS := bS1.cell
      have HS := Lib.hid hS
      have HP := Lib.hid hp
      clear hS hp
      go_wp2
      refine ret_mark hK (results_tmp rfl _ _ _) ⟨?_, below_mark hB1 (by omega) hK⟩
      rw [rightB_eq, HH.out, ← HS.out, HP.out]; rfl
    · rintro D c pre W hD hS ⟨⟨bS1, hp, rfl⟩, hB1⟩ hK
      have cS := bS1.cell
      have HS := Lib.hid (hS hp)
      clear hS hp
      go_wp2
      refine ret_mark hK (results_tmp rfl _ _ _) ⟨?_, below_mark hB1 (by omega) hK⟩
      rw [rightB_eq, HS.out, Bool.and_false]; rfl
  · have bS : Boxed (((w.alloc (.cells #[.string s] 65)).alloc (.cells #[.bool false] 4)).alloc (.cells #[.string s] 51)) (w.heap.size + 1) 4 (.bool false) := by
      have := (Boxed.new (w.alloc (.cells #[.string s] 65)) 4 (.bool false)).alloc (.cells #[.string s] 51)
      simpa using this
    have hB0 : Below w.heap.size w (((w.alloc (.cells #[.string s] 65)).alloc (.cells #[.bool false] 4)).alloc (.cells #[.string s] 51)) := (((Below.refl _ w).alloc (Nat.le_refl _) _).alloc (by simp) _).alloc (by simp; omega) _
    have bT := Boxed.new ((w.alloc (.cells #[.string s] 65)).alloc (.cells #[.bool false] 4)) 51 (.string s)
    have hsz : (((w.alloc (.cells #[.string s] 65)).alloc (.cells #[.bool false] 4)).alloc (.cells #[.string s] 51)).heap.size = w.heap.size + 3 := by simp
    simp only [World.size_alloc] at bT
    generalize hW0 : ((w.alloc (.cells #[.string s] 65)).alloc (.cells #[.bool false] 4)).alloc (.cells #[.string s] 51) = W0 at *
    clear hW0
    refine wp_rangeFunc_fix (gf := 54) (lb := #[.pointer (some ⟨w.heap.size + 1 + 1, 0, none⟩)]) rfl (enters_of Try.func54 (by kernel_rfl) rfl)
      (letters_stops 8 (w.heap.size + 1 + 1) s W0 (by omega) (by omega) bT.cell) walksK_t KeepsWalks.refl walksK_b (Below.refl _ _) (fun _ => rfl)
      (RightI false w) (RightIx w)
      (OwnFrom.and (OwnFrom.and (Own.from (boxed_own _ _ _) _) (ownFrom_pure _ _)) (ownFrom_below (Nat.le_refl _) (by omega)))
      (fun c => OwnFrom.and (OwnFrom.and (Own.from (boxed_own _ _ _) _) (ownFrom_pure _ _)) (ownFrom_below (Nat.le_refl _) (by omega)))
      ⟨⟨bS, rfl⟩, hB0⟩
      ?_ ?_ ?_ ?_ ?_
    rotate_left
    · intro l x W K hK
      gi_wp2
      exact hK
    · rintro l pre x W hl _ ⟨⟨bS1, hp⟩, hB1⟩ _
      have HP := Lib.hid hp
      clear hp
      have cS := bS1.cell
      have fS := bS1.frozen
      rcases okRune_cases x with ⟨h1', h2', h3', HX⟩ | ⟨h1', HX⟩ | ⟨h1', h2', HX⟩ | ⟨h1', h2', h3', HX⟩
      · gi_wp2
        exact ⟨KeepsFrom.refl _ _, KeepsWalks.refl _, ⟨bS1, by simp [HP.out, HX.out]⟩, hB1⟩
      all_goals
        gi_wp2
        first | (exfalso; omega) | exact ⟨(KeepsOthers.setCell _ _ _).from _, ⟨bS1.set _, by simp [HX.out], rfl⟩, hB1.setCell (p := ⟨w.heap.size + 1, 0, none⟩) (by simp) _⟩
    · rintro D xs W hD hS ⟨⟨bS1, hp⟩, hB1⟩ hK
      have cS := bS1.cell
      have HS := Lib.hid hS
      have HP := Lib.hid hp
      clear hS hp
      go_wp2
      refine ret_mark hK (results_tmp rfl _ _ _) ⟨?_, below_mark hB1 (by omega) hK⟩
      rw [rightB_eq, HH.out, ← HS.out, HP.out]; rfl
    · rintro D c pre W hD hS ⟨⟨bS1, hp, rfl⟩, hB1⟩ hK
      have cS := bS1.cell
      have HS := Lib.hid (hS hp)
      clear hS hp
      go_wp2
      refine ret_mark hK (results_tmp rfl _ _ _) ⟨?_, below_mark hB1 (by omega) hK⟩
      rw [rightB_eq, HS.out, Bool.and_false]; rfl
  · have bS : Boxed (((w.alloc (.cells #[.string s] 65)).alloc (.cells #[.bool true] 4)).alloc (.cells #[.string s] 51)) (w.heap.size + 1) 4 (.bool true) := by
      have := (Boxed.new (w.alloc (.cells #[.string s] 65)) 4 (.bool true)).alloc (.cells #[.string s] 51)
      simpa using this
    have hB0 : Below w.heap.size w (((w.alloc (.cells #[.string s] 65)).alloc (.cells #[.bool true] 4)).alloc (.cells #[.string s] 51)) := (((Below.refl _ w).alloc (Nat.le_refl _) _).alloc (by simp) _).alloc (by simp; omega) _
    have bT := Boxed.new ((w.alloc (.cells #[.string s] 65)).alloc (.cells #[.bool true] 4)) 51 (.string s)
    have hsz : (((w.alloc (.cells #[.string s] 65)).alloc (.cells #[.bool true] 4)).alloc (.cells #[.string s] 51)).heap.size = w.heap.size + 3 := by simp
    simp only [World.size_alloc] at bT
    generalize hW0 : ((w.alloc (.cells #[.string s] 65)).alloc (.cells #[.bool true] 4)).alloc (.cells #[.string s] 51) = W0 at *
    clear hW0
    refine wp_rangeFunc_fix (gf := 54) (lb := #[.pointer (some ⟨w.heap.size + 1 + 1, 0, none⟩)]) rfl (enters_of Try.func54 (by kernel_rfl) rfl)
      (letters_stops 8 (w.heap.size + 1 + 1) s W0 (by omega) (by omega) bT.cell) walksK_t KeepsWalks.refl walksK_b (Below.refl _ _) (fun _ => rfl)
      (RightI true w) (RightIx w)
      (OwnFrom.and (OwnFrom.and (Own.from (boxed_own _ _ _) _) (ownFrom_pure _ _)) (ownFrom_below (Nat.le_refl _) (by omega)))
      (fun c => OwnFrom.and (OwnFrom.and (Own.from (boxed_own _ _ _) _) (ownFrom_pure _ _)) (ownFrom_below (Nat.le_refl _) (by omega)))
      ⟨⟨bS, rfl⟩, hB0⟩
      ?_ ?_ ?_ ?_ ?_
    rotate_left
    · intro l x W K hK
      gi_wp2
      exact hK
    · rintro l pre x W hl _ ⟨⟨bS1, hp⟩, hB1⟩ _
      have HP := Lib.hid hp
      clear hp
      have cS := bS1.cell
      have fS := bS1.frozen
      rcases okRune_cases x with ⟨h1', h2', h3', HX⟩ | ⟨h1', HX⟩ | ⟨h1', h2', HX⟩ | ⟨h1', h2', h3', HX⟩
      · gi_wp2
        exact ⟨KeepsFrom.refl _ _, KeepsWalks.refl _, ⟨bS1, by simp [HP.out, HX.out]⟩, hB1⟩
      all_goals
        gi_wp2
        first | (exfalso; omega) | exact ⟨(KeepsOthers.setCell _ _ _).from _, ⟨bS1.set _, by simp [HX.out], rfl⟩, hB1.setCell (p := ⟨w.heap.size + 1, 0, none⟩) (by simp) _⟩
    · rintro D xs W hD hS ⟨⟨bS1, hp⟩, hB1⟩ hK
      have cS := bS1.cell
      have HS := Lib.hid hS
      have HP := Lib.hid hp
      clear hS hp
      go_wp2
      refine ret_mark hK (results_tmp rfl _ _ _) ⟨?_, below_mark hB1 (by omega) hK⟩
      rw [rightB_eq, HH.out, ← HS.out, HP.out]; rfl
    · rintro D c pre W hD hS ⟨⟨bS1, hp, rfl⟩, hB1⟩ hK
      have cS := bS1.cell
      have HS := Lib.hid (hS hp)
      clear hS hp
      go_wp2
      refine ret_mark hK (results_tmp rfl _ _ _) ⟨?_, below_mark hB1 (by omega) hK⟩
      rw [rightB_eq, HS.out, Bool.and_false]; rfl

/-- Check's answer. -/
def errB (b : Bool) : Int := if b then 0 else 160
theorem check_any (s : ByteArray) (w : World) (hs : s.size ≤ maxLen) :
    Calls Try.prog 20 #[.string s] w fun e w' => e = .returned (.int .i64 (errB (rightB s.data.toList))) ∧ Below w.heap.size w w' := by
  have HR : ∀ b, rightB s.data.toList = b → Hid (rightB s.data.toList = b) := fun _ h => h
  cases hr : rightB s.data.toList
  all_goals
    have H := HR _ hr
    clear HR hr
    go_enter Try.func20, Try.ntmps20
    go_wp2_with fail
    refine (right_any _ _ hs).mono ?_
    rintro e w' ⟨rfl, hb⟩
    rw [H.out]
    go_wp2_with fail
    go_ret
    exact ⟨rfl, hb⟩
end Go.Proofs.Ytgkmcooahjoagaa
