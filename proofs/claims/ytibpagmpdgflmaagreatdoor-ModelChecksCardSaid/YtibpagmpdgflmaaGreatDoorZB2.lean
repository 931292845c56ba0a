/- The iterator over a name's letters, and the contract of label.Check. The contract of label.Check: which texts are names. Conditions: none. -/
import Derived.Test.YtibpagmpdgflmaaGreatDoorA1
import Derived.Test.YtibpagmpdgflmaaGreatDoorZK7
namespace Go.Proofs.YtibpagmpdgflmaaGreatDoor
open Go.RowKit Go.Shelf
attribute [local go_sem] Oper.semAt_some

/-- A rune that may stand in a name. -/
def okRune (r : Nat) : Bool := decide (33 ≤ r) && decide (r ≤ 126) && !(decide (r = 47))

theorem okRune_byte (c : UInt8) : okRune c.toNat = okByte c := rfl
theorem okRune_high {r : Nat} (h : 128 ≤ r) : okRune r = false := by
  simp [okRune]; omega
theorem okByte_high {c : UInt8} (h : 128 ≤ c.toNat) : okByte c = false := by
  simp [okByte]; omega
theorem all_take_le {p : UInt8 → Bool} {l : List UInt8} {i j : Nat} (h : i ≤ j) (hi : (l.take i).all p = false) : (l.take j).all p = false := by
  have : l.take i = (l.take j).take i := by rw [List.take_take, Nat.min_eq_left h]
  rw [this] at hi
  rw [Bool.eq_false_iff]; intro hj
  rw [Bool.eq_false_iff] at hi
  apply hi
  rw [List.all_eq_true] at hj ⊢
  exact fun x hx => hj x (List.mem_of_mem_take hx)

/-- One step of the letters. -/
theorem letters_step (s : ByteArray) (pos : Nat) (h : pos < s.size) (pre : List Nat) (hp : pre.all okRune = (s.data.toList.take pos).all okByte) :
    (pre ++ [(Utf8.decode s pos).1]).all okRune = (s.data.toList.take (pos + (Utf8.decode s pos).2)).all okByte := by
  by_cases ha : (s[pos]'h).toNat < 128
  · rw [decode_ascii s pos h ha]
    simp only [List.all_append, List.all_cons, List.all_nil, Bool.and_true]
    rw [take_snoc s pos h, List.all_append, hp]
    simp [okRune_byte]
  · obtain ⟨h1, h2⟩ := decode_high s pos h (by omega)
    have e1 : (pre ++ [(Utf8.decode s pos).1]).all okRune = false := by
      simp [List.all_append, okRune_high h1]
    rw [e1]
    symm
    refine all_take_le (i := pos + 1) (by omega) ?_
    rw [take_snoc s pos h, List.all_append]
    simp [okByte_high (show 128 ≤ (s[pos]'h).toNat by omega)]

theorem letters_stop {s : ByteArray} {pos : Nat} (ha : (s.data.toList.take pos).all okByte = false) : s.data.toList.all okByte = false := by
  have := all_take_le (p := okByte) (l := s.data.toList) (i := pos) (j := max pos s.data.toList.length) (by omega) ha
  rwa [List.take_of_length_le (by omega)] at this

set_option maxRecDepth 100000 in
set_option maxHeartbeats 1000000 in
theorem letters1_in (F : Fence) (n : Nat) (h6 : F.fn 238) (hro : F.round = none) (hn : 1 ≤ n) (l Bn : Nat) (s : ByteArray) (J Jx : List Nat → World → Prop)
    (W : World) (hJ : AbidesFrom W.heap.size J)
    (hY : ∀ pre x W1, J pre W1 → pre.length < s.size → YieldAt F (n - 1) Tryz.prog l #[.int .i32 (x : Nat)] W1 fun e W' =>
      (e = .returned (.bool true) ∧ J (pre ++ [x]) W' ∧ KeepsWalks W1 W') ∨ (e = .returned (.bool false) ∧ Jx (pre ++ [x]) W'))
    (hc : W.cell? ⟨Bn, 0, none⟩ = some (.string s)) (h0 : J [] W) :
    CallsIn F n Tryz.prog 238 #[.func (.yield l) #[] #[], .pointer (some ⟨Bn, 0, none⟩)] W fun e W' => (∃ v, e = .returned v) ∧
      ((∃ xs, xs.all okRune = s.data.toList.all okByte ∧ J xs W') ∨ (∃ pre, (pre.all okRune = false → s.data.toList.all okByte = false) ∧ Jx pre W')) := by
  refine callsIn_of_wp Tryz.func238 rfl h6 ?_ hro
  simp only [Tryz.ntmps238, List.size_toArray, List.length_cons, List.length_nil, Nat.reduceAdd, Nat.reduceSub, Array.replicate_succ, Array.replicate_zero, List.push_toArray, List.append_toArray, List.nil_append, List.cons_append]
  gi_wp2
  have hwalk : ∀ (wr : World) (pos pos' : Nat), wr.heap[W.heap.size]? = some (.stringIter s pos) → wr.grownBy (wr.iterAt W.heap.size s pos') (some W.heap.size) := fun wr pos pos' hk =>
    ⟨rfl, rfl, rfl, by rw [Lib.iterAt_size]; exact Nat.le_refl _, fun i _ hne => Lib.iterAt_other _ _ _ _ _ (fun e => hne (by rw [e]))⟩
  have hJ0 : J [] (W.iter s 0) := hJ _ W _ none h0 ⟨rfl, rfl, rfl, by simp [World.iter], fun i hi _ => Below.heap_alloc W _ i hi⟩ (fun r e => by cases e)
  have HJ := Lib.hid hJ0
  clear hJ0
  have HY := Lib.hid hY
  clear hY
  have HW := Lib.hid hwalk
  clear hwalk
  have HA := Lib.hid hJ
  clear hJ
  gi_loopw [] (fun wr => ∃ (pre : List Nat) (pos : Nat), J pre wr ∧ wr.heap[W.heap.size]? = some (.stringIter s pos) ∧ pre.length ≤ pos ∧ Hid (pre.all okRune = (s.data.toList.take pos).all okByte)) (fun wr => s.size - wr.iterPos W.heap.size)
  case atStart => exact ⟨[], 0, HJ.out, World.iter_heap _ _ _, Nat.le_refl _, Lib.hid (by simp)⟩
  case round =>
    obtain ⟨pre, pos, hj, hit, hl, HR⟩ := hrel
    by_cases hlt : pos < s.size
    · have hnx := fun ty => Lib.run_next_any_at (P := Tryz.prog) wr W.heap.size s pos ty hit hlt
      have hj' := HA.out _ wr _ _ hj (HW.out wr pos (pos + (Utf8.decode s pos).2) hit) (fun r e => by cases e; exact ⟨Nat.le_refl _, _, hit, rfl⟩)
      obtain ⟨fn, tmps, assign, body, hy, hR⟩ := HY.out pre (Utf8.decode s pos).1 _ hj' (by omega)
      gi_wp2
      refine hR.mono ?_
      rintro e W3 (⟨rfl, hJ3, hk3⟩ | ⟨rfl, hJx3⟩)
      · have hit3 : W3.heap[W.heap.size]? = some (.stringIter s (pos + (Utf8.decode s pos).2)) := hk3.same _ _ (Lib.iterAt_heap _ _ _ _ _ hit) rfl
        have hd : 1 ≤ (Utf8.decode s pos).2 := by
          by_cases ha : (s[pos]'hlt).toNat < 128
          · rw [decode_ascii s pos hlt ha]; exact Nat.le_refl _
          · exact (decode_high s pos hlt (by omega)).2
        gi_wp2
        go_roundw
        case rel => exact ⟨pre ++ [(Utf8.decode s pos).1], _, hJ3, hit3, by simp; omega, Lib.hid (letters_step s pos hlt pre HR.out)⟩
        case measure => rw [iterPos_of hit3, iterPos_of hit]; omega
      · gi_wp2
        refine bodyPost_ret (results_none rfl _ _ _) rfl ?_
        refine ⟨⟨_, rfl⟩, .inr ⟨_, fun h => ?_, hJx3⟩⟩
        rw [letters_step s pos hlt pre HR.out] at h
        exact letters_stop h
    · have hnx := fun ty => Lib.run_next_end_at (P := Tryz.prog) wr W.heap.size s pos ty hit hlt
      gi_wp2
      go_end0
      refine ⟨⟨_, rfl⟩, .inl ⟨pre, ?_, hj⟩⟩
      rw [HR.out, List.take_of_length_le (by show s.size ≤ pos; omega)]
end Go.Proofs.YtibpagmpdgflmaaGreatDoor

namespace Go.Proofs.YtibpagmpdgflmaaGreatDoor
open Go.RowKit Go.Shelf
attribute [local go_sem] Oper.semAt_some

theorem letters_any (s : ByteArray) (w : World) :
    Calls Tryz.prog 229 #[.string s] w fun e w' => e = .returned (.func (.func 238) #[] #[.pointer (some ⟨w.heap.size, 0, none⟩)]) ∧ w' = w.alloc (.cells #[.string s] 257) := by
  go_enter Tryz.func229, Tryz.ntmps229
  go_wp2
  go_ret
  exact ⟨rfl, rfl⟩

theorem letters_stops (n Bn : Nat) (s : ByteArray) (w : World) (hn : 1 ≤ n) (hB : Bn < w.heap.size) (hc : w.cell? ⟨Bn, 0, none⟩ = some (.string s)) :
    SeqStopsK Fence.wide n Tryz.prog 238 #[.pointer (some ⟨Bn, 0, none⟩)] (fun r : Nat => #[Value.int .i32 r]) KeepsWalks (fun xs => xs.all okRune = s.data.toList.all okByte) (fun pre => pre.all okRune = false → s.data.toList.all okByte = false) s.size w :=
  fun l J Jx W hW hJ _ hY h0 => letters1_in Fence.wide n trivial rfl hn l Bn s J Jx W hJ hY ((hW.cell (p := ⟨Bn, 0, none⟩) hB).trans hc) h0

/-- All but the letters. -/
def headB (s : ByteArray) : Bool := decide (1 ≤ s.size) && decide (s.size ≤ 40) && !(s.data.toList == [46]) && !(s.data.toList == [46, 46])
theorem rightB_eq (s : ByteArray) : rightB s.data.toList = (headB s && s.data.toList.all okByte) := rfl

theorem okRune_cases (x : Nat) : (¬ (x : Int) < 33 ∧ ¬ 126 < (x : Int) ∧ ((x : Int) == 47) = false ∧ Hid (okRune x = true)) ∨ ((x : Int) < 33 ∧ Hid (okRune x = false)) ∨ (¬ (x : Int) < 33 ∧ 126 < (x : Int) ∧ Hid (okRune x = false)) ∨ (¬ (x : Int) < 33 ∧ ¬ 126 < (x : Int) ∧ ((x : Int) == 47) = true ∧ Hid (okRune x = false)) := by
  have e : ((x : Int) == 47) = decide (x = 47) := by
    rw [Bool.eq_iff_iff]; simp; omega
  rw [e]
  by_cases h1 : 33 ≤ x <;> by_cases h2 : x ≤ 126 <;> by_cases h3 : x = 47 <;> simp [okRune, Hid, h1, h2, h3] <;> omega

/-- What the loop over the letters keeps. -/
def RightI (fb : Bool) (w : World) (pre : List Nat) (W : World) : Prop :=
  (Boxed W (w.heap.size + 1) 4 (.bool fb) ∧ pre.all okRune = true) ∧ Below w.heap.size w W
def RightIx (w : World) (c : Code) (pre : List Nat) (W : World) : Prop :=
  (Boxed W (w.heap.size + 1) 4 (.bool false) ∧ pre.all okRune = false ∧ c = .exit 0) ∧ Below w.heap.size w W

set_option maxRecDepth 100000 in
set_option maxHeartbeats 2000000 in
theorem right_any (s : ByteArray) (w : World) (hs : s.size ≤ maxLen) :
    Calls Tryz.prog 214 #[.agg #[.string s]] w fun e w' => e = .returned (.bool (rightB s.data.toList)) ∧ Below w.heap.size w w' := by
  unfold maxLen at hs
  have hdec : (¬ 1 ≤ s.size ∧ Hid (headB s = false)) ∨ (1 ≤ s.size ∧ ¬ s.size ≤ 40 ∧ Hid (headB s = false)) ∨ (1 ≤ s.size ∧ s.size ≤ 40 ∧ (s.toList == [46]) = true ∧ (s.toList != [46]) = false ∧ Hid (headB s = false)) ∨ (1 ≤ s.size ∧ s.size ≤ 40 ∧ (s.toList == [46]) = false ∧ (s.toList != [46]) = true ∧ (s.toList == [46, 46]) = true ∧ (s.toList != [46, 46]) = false ∧ Hid (headB s = false)) ∨ (1 ≤ s.size ∧ s.size ≤ 40 ∧ (s.toList == [46]) = false ∧ (s.toList != [46]) = true ∧ (s.toList == [46, 46]) = false ∧ (s.toList != [46, 46]) = true ∧ Hid (headB s = true)) := by
    unfold headB Hid
    rw [ByteArray.toList_eq]
    by_cases h1 : 1 ≤ s.size <;> by_cases h2 : s.size ≤ 40 <;> by_cases h3 : s.data.toList = [46] <;> by_cases h4 : s.data.toList = [46, 46] <;> simp [h1, h2, h3, h4]
  refine calls_of_wp_marks Tryz.func214 rfl ?_
  simp only [Tryz.ntmps214, List.size_toArray, List.length_cons, List.length_nil, Nat.reduceAdd, Nat.reduceSub, Array.replicate_succ, Array.replicate_zero, List.push_toArray, List.append_toArray, List.nil_append, List.cons_append]
  rcases hdec with ⟨h1, HH⟩ | ⟨h1, h2, HH⟩ | ⟨h1, h2, h3, g3, HH⟩ | ⟨h1, h2, h3, g3, h4, g4, HH⟩ | ⟨h1, h2, h3, g3, h4, g4, HH⟩
  all_goals
    go_wp2
    apply wp_scope_straight
    go_wp2_with (first | go_step3 | (go_at_call 229; refine (letters_any _ _).mono ?_; rintro e w' ⟨rfl, rfl⟩))
  · have bS : Boxed (((w.alloc (.cells #[.string s] 259)).alloc (.cells #[.bool false] 4)).alloc (.cells #[.string s] 257)) (w.heap.size + 1) 4 (.bool false) := by
      have := (Boxed.new (w.alloc (.cells #[.string s] 259)) 4 (.bool false)).alloc (.cells #[.string s] 257)
      simpa using this
    have hB0 : Below w.heap.size w (((w.alloc (.cells #[.string s] 259)).alloc (.cells #[.bool false] 4)).alloc (.cells #[.string s] 257)) := (((Below.refl _ w).alloc (Nat.le_refl _) _).alloc (by simp) _).alloc (by simp; omega) _
    have bT := Boxed.new ((w.alloc (.cells #[.string s] 259)).alloc (.cells #[.bool false] 4)) 257 (.string s)
    have hsz : (((w.alloc (.cells #[.string s] 259)).alloc (.cells #[.bool false] 4)).alloc (.cells #[.string s] 257)).heap.size = w.heap.size + 3 := by simp
    simp only [World.size_alloc] at bT
    generalize hW0 : ((w.alloc (.cells #[.string s] 259)).alloc (.cells #[.bool false] 4)).alloc (.cells #[.string s] 257) = W0 at *
    clear hW0
    refine wp_rangeFunc_fix (gf := 238) (lb := #[.pointer (some ⟨w.heap.size + 1 + 1, 0, none⟩)]) rfl (enters_of Tryz.func238 (by kernel_rfl) rfl)
      (letters_stops 8 (w.heap.size + 1 + 1) s W0 (by omega) (by omega) bT.cell) walksK_t KeepsWalks.refl walksK_b (Below.refl _ _) (fun _ => rfl)
      (RightI false w) (RightIx w)
      (OwnFrom.and (OwnFrom.and (Own.from (boxed_own _ _ _) _) (ownFrom_pure _ _)) (ownFrom_below (Nat.le_refl _) (by omega)))
      (fun c => OwnFrom.and (OwnFrom.and (Own.from (boxed_own _ _ _) _) (ownFrom_pure _ _)) (ownFrom_below (Nat.le_refl _) (by omega)))
      ⟨⟨bS, rfl⟩, hB0⟩
      ?_ ?_ ?_ ?_ ?_
    rotate_left
    · intro l x W K hK
      gi_wp2
      exact hK
    · rintro l pre x W hl _ ⟨⟨bS1, hp⟩, hB1⟩ _
      have HP := Lib.hid hp
      clear hp
      have cS := bS1.cell
      have fS := bS1.frozen
      rcases okRune_cases x with ⟨h1', h2', h3', HX⟩ | ⟨h1', HX⟩ | ⟨h1', h2', HX⟩ | ⟨h1', h2', h3', HX⟩
      · gi_wp2
        exact ⟨KeepsFrom.refl _ _, KeepsWalks.refl _, ⟨bS1, by simp [HP.out, HX.out]⟩, hB1⟩
      all_goals
        gi_wp2
        first | (exfalso; omega) | exact ⟨(KeepsOthers.setCell _ _ _).from _, ⟨bS1.set _, by simp [HX.out], rfl⟩, hB1.setCell (p := ⟨w.heap.size + 1, 0, none⟩) (by simp) _⟩
    · rintro D xs W hD hS ⟨⟨bS1, hp⟩, hB1⟩ hK
      have cS := bS1.cell
      have HS := Lib.hid hS
      have HP := Lib.hid hp
      clear hS hp
      go_wp2
      refine ret_mark hK (results_tmp rfl _ _ _) ⟨?_, below_mark hB1 (by omega) hK⟩
      rw [rightB_eq, HH.out, ← HS.out, HP.out]; rfl
    · rintro D c pre W hD hS ⟨⟨bS1, hp, rfl⟩, hB1⟩ hK
      have cS := bS1.cell
      have HS := Lib.hid (hS hp)
      clear hS hp
      go_wp2
      refine ret_mark hK (results_tmp rfl _ _ _) ⟨?_, below_mark hB1 (by omega) hK⟩
      rw [rightB_eq, HS.out, Bool.and_false]; rfl
  · have bS : Boxed (((w.alloc (.cells #[.string s] 259)).alloc (.cells #[.bool false] 4)).alloc (.cells #[.string s] 257)) (w.heap.size + 1) 4 (.bool false) := by
      have := (Boxed.new (w.alloc (.cells #[.string s] 259)) 4 (.bool false)).alloc (.cells #[.string s] 257)
      simpa using this
    have hB0 : Below w.heap.size w (((w.alloc (.cells #[.string s] 259)).alloc (.cells #[.bool false] 4)).alloc (.cells #[.string s] 257)) := (((Below.refl _ w).alloc (Nat.le_refl _) _).alloc (by simp) _).alloc (by simp; omega) _
    have bT := Boxed.new ((w.alloc (.cells #[.string s] 259)).alloc (.cells #[.bool false] 4)) 257 (.string s)
    have hsz : (((w.alloc (.cells #[.string s] 259)).alloc (.cells #[.bool false] 4)).alloc (.cells #[.string s] 257)).heap.size = w.heap.size + 3 := by simp
    simp only [World.size_alloc] at bT
    generalize hW0 : ((w.alloc (.cells #[.string s] 259)).alloc (.cells #[.bool false] 4)).alloc (.cells #[.string s] 257) = W0 at *
    clear hW0
    refine wp_rangeFunc_fix (gf := 238) (lb := #[.pointer (some ⟨w.heap.size + 1 + 1, 0, none⟩)]) rfl (enters_of Tryz.func238 (by kernel_rfl) rfl)
      (letters_stops 8 (w.heap.size + 1 + 1) s W0 (by omega) (by omega) bT.cell) walksK_t KeepsWalks.refl walksK_b (Below.refl _ _) (fun _ => rfl)
      (RightI false w) (RightIx w)
      (OwnFrom.and (OwnFrom.and (Own.from (boxed_own _ _ _) _) (ownFrom_pure _ _)) (ownFrom_below (Nat.le_refl _) (by omega)))
      (fun c => OwnFrom.and (OwnFrom.and (Own.from (boxed_own _ _ _) _) (ownFrom_pure _ _)) (ownFrom_below (Nat.le_refl _) (by omega)))
      ⟨⟨bS, rfl⟩, hB0⟩
      ?_ ?_ ?_ ?_ ?_
    rotate_left
    · intro l x W K hK
      gi_wp2
      exact hK
    · rintro l pre x W hl _ ⟨⟨bS1, hp⟩, hB1⟩ _
      have HP := Lib.hid hp
      clear hp
      have cS := bS1.cell
      have fS := bS1.frozen
      rcases okRune_cases x with ⟨h1', h2', h3', HX⟩ | ⟨h1', HX⟩ | ⟨h1', h2', HX⟩ | ⟨h1', h2', h3', HX⟩
      · gi_wp2
        exact ⟨KeepsFrom.refl _ _, KeepsWalks.refl _, ⟨bS1, by simp [HP.out, HX.out]⟩, hB1⟩
      all_goals
        gi_wp2
        first | (exfalso; omega) | exact ⟨(KeepsOthers.setCell _ _ _).from _, ⟨bS1.set _, by simp [HX.out], rfl⟩, hB1.setCell (p := ⟨w.heap.size + 1, 0, none⟩) (by simp) _⟩
    · rintro D xs W hD hS ⟨⟨bS1, hp⟩, hB1⟩ hK
      have cS := bS1.cell
      have HS := Lib.hid hS
      have HP := Lib.hid hp
      clear hS hp
      go_wp2
      refine ret_mark hK (results_tmp rfl _ _ _) ⟨?_, below_mark hB1 (by omega) hK⟩
      rw [rightB_eq, HH.out, ← HS.out, HP.out]; rfl
    · rintro D c pre W hD hS ⟨⟨bS1, hp, rfl⟩, hB1⟩ hK
      have cS := bS1.cell
      have HS := Lib.hid (hS hp)
      clear hS hp
      go_wp2
      refine ret_mark hK (results_tmp rfl _ _ _) ⟨?_, below_mark hB1 (by omega) hK⟩
      rw [rightB_eq, HS.out, Bool.and_false]; rfl
  · have bS : Boxed (((w.alloc (.cells #[.string s] 259)).alloc (.cells #[.bool false] 4)).alloc (.cells #[.string s] 257)) (w.heap.size + 1) 4 (.bool false) := by
      have := (Boxed.new (w.alloc (.cells #[.string s] 259)) 4 (.bool false)).alloc (.cells #[.string s] 257)
      simpa using this
    have hB0 : Below w.heap.size w (((w.alloc (.cells #[.string s] 259)).alloc (.cells #[.bool false] 4)).alloc (.cells #[.string s] 257)) := (((Below.refl _ w).alloc (Nat.le_refl _) _).alloc (by simp) _).alloc (by simp; omega) _
    have bT := Boxed.new ((w.alloc (.cells #[.string s] 259)).alloc (.cells #[.bool false] 4)) 257 (.string s)
    have hsz : (((w.alloc (.cells #[.string s] 259)).alloc (.cells #[.bool false] 4)).alloc (.cells #[.string s] 257)).heap.size = w.heap.size + 3 := by simp
    simp only [World.size_alloc] at bT
    generalize hW0 : ((w.alloc (.cells #[.string s] 259)).alloc (.cells #[.bool false] 4)).alloc (.cells #[.string s] 257) = W0 at *
    clear hW0
    refine wp_rangeFunc_fix (gf := 238) (lb := #[.pointer (some ⟨w.heap.size + 1 + 1, 0, none⟩)]) rfl (enters_of Tryz.func238 (by kernel_rfl) rfl)
      (letters_stops 8 (w.heap.size + 1 + 1) s W0 (by omega) (by omega) bT.cell) walksK_t KeepsWalks.refl walksK_b (Below.refl _ _) (fun _ => rfl)
      (RightI false w) (RightIx w)
      (OwnFrom.and (OwnFrom.and (Own.from (boxed_own _ _ _) _) (ownFrom_pure _ _)) (ownFrom_below (Nat.le_refl _) (by omega)))
      (fun c => OwnFrom.and (OwnFrom.and (Own.from (boxed_own _ _ _) _) (ownFrom_pure _ _)) (ownFrom_below (Nat.le_refl _) (by omega)))
      ⟨⟨bS, rfl⟩, hB0⟩
      ?_ ?_ ?_ ?_ ?_
    rotate_left
    · intro l x W K hK
      gi_wp2
      exact hK
    · rintro l pre x W hl _ ⟨⟨bS1, hp⟩, hB1⟩ _
      have HP := Lib.hid hp
      clear hp
      have cS := bS1.cell
      have fS := bS1.frozen
      rcases okRune_cases x with ⟨h1', h2', h3', HX⟩ | ⟨h1', HX⟩ | ⟨h1', h2', HX⟩ | ⟨h1', h2', h3', HX⟩
      · gi_wp2
        exact ⟨KeepsFrom.refl _ _, KeepsWalks.refl _, ⟨bS1, by simp [HP.out, HX.out]⟩, hB1⟩
      all_goals
        gi_wp2
        first | (exfalso; omega) | exact ⟨(KeepsOthers.setCell _ _ _).from _, ⟨bS1.set _, by simp [HX.out], rfl⟩, hB1.setCell (p := ⟨w.heap.size + 1, 0, none⟩) (by simp) _⟩
    · rintro D xs W hD hS ⟨⟨bS1, hp⟩, hB1⟩ hK
      have cS := bS1.cell
      have HS := Lib.hid hS
      have HP := Lib.hid hp
      clear hS hp
      go_wp2
      refine ret_mark hK (results_tmp rfl _ _ _) ⟨?_, below_mark hB1 (by omega) hK⟩
      rw [rightB_eq, HH.out, ← HS.out, HP.out]; rfl
    · rintro D c pre W hD hS ⟨⟨bS1, hp, rfl⟩, hB1⟩ hK
      have cS := bS1.cell
      have HS := Lib.hid (hS hp)
      clear hS hp
      go_wp2
      refine ret_mark hK (results_tmp rfl _ _ _) ⟨?_, below_mark hB1 (by omega) hK⟩
      rw [rightB_eq, HS.out, Bool.and_false]; rfl
  · have bS : Boxed (((w.alloc (.cells #[.string s] 259)).alloc (.cells #[.bool false] 4)).alloc (.cells #[.string s] 257)) (w.heap.size + 1) 4 (.bool false) := by
      have := (Boxed.new (w.alloc (.cells #[.string s] 259)) 4 (.bool false)).alloc (.cells #[.string s] 257)
      simpa using this
    have hB0 : Below w.heap.size w (((w.alloc (.cells #[.string s] 259)).alloc (.cells #[.bool false] 4)).alloc (.cells #[.string s] 257)) := (((Below.refl _ w).alloc (Nat.le_refl _) _).alloc (by simp) _).alloc (by simp; omega) _
    have bT := Boxed.new ((w.alloc (.cells #[.string s] 259)).alloc (.cells #[.bool false] 4)) 257 (.string s)
    have hsz : (((w.alloc (.cells #[.string s] 259)).alloc (.cells #[.bool false] 4)).alloc (.cells #[.string s] 257)).heap.size = w.heap.size + 3 := by simp
    simp only [World.size_alloc] at bT
    generalize hW0 : ((w.alloc (.cells #[.string s] 259)).alloc (.cells #[.bool false] 4)).alloc (.cells #[.string s] 257) = W0 at *
    clear hW0
    refine wp_rangeFunc_fix (gf := 238) (lb := #[.pointer (some ⟨w.heap.size + 1 + 1, 0, none⟩)]) rfl (enters_of Tryz.func238 (by kernel_rfl) rfl)
      (letters_stops 8 (w.heap.size + 1 + 1) s W0 (by omega) (by omega) bT.cell) walksK_t KeepsWalks.refl walksK_b (Below.refl _ _) (fun _ => rfl)
      (RightI false w) (RightIx w)
      (OwnFrom.and (OwnFrom.and (Own.from (boxed_own _ _ _) _) (ownFrom_pure _ _)) (ownFrom_below (Nat.le_refl _) (by omega)))
      (fun c => OwnFrom.and (OwnFrom.and (Own.from (boxed_own _ _ _) _) (ownFrom_pure _ _)) (ownFrom_below (Nat.le_refl _) (by omega)))
      ⟨⟨bS, rfl⟩, hB0⟩
      ?_ ?_ ?_ ?_ ?_
    rotate_left
    · intro l x W K hK
      gi_wp2
      exact hK
    · rintro l pre x W hl _ ⟨⟨bS1, hp⟩, hB1⟩ _
      have HP := Lib.hid hp
      clear hp
      have cS := bS1.cell
      have fS := bS1.frozen
      rcases okRune_cases x with ⟨h1', h2', h3', HX⟩ | ⟨h1', HX⟩ | ⟨h1', h2', HX⟩ | ⟨h1', h2', h3', HX⟩
      · gi_wp2
        exact ⟨KeepsFrom.refl _ _, KeepsWalks.refl _, ⟨bS1, by simp [HP.out, HX.out]⟩, hB1⟩
      all_goals
        gi_wp2
        first | (exfalso; omega) | exact ⟨(KeepsOthers.setCell _ _ _).from _, ⟨bS1.set _, by simp [HX.out], rfl⟩, hB1.setCell (p := ⟨w.heap.size + 1, 0, none⟩) (by simp) _⟩
    · rintro D xs W hD hS ⟨⟨bS1, hp⟩, hB1⟩ hK
      have cS := bS1.cell
      have HS := Lib.hid hS
      have HP := Lib.hid hp
      clear hS hp
      go_wp2
      refine ret_mark hK (results_tmp rfl _ _ _) ⟨?_, below_mark hB1 (by omega) hK⟩
      rw [rightB_eq, HH.out, ← HS.out, HP.out]; rfl
    · rintro D c pre W hD hS ⟨⟨bS1, hp, rfl⟩, hB1⟩ hK
      have cS := bS1.cell
      have HS := Lib.hid (hS hp)
      clear hS hp
      go_wp2
      refine ret_mark hK (results_tmp rfl _ _ _) ⟨?_, below_mark hB1 (by omega) hK⟩
      rw [rightB_eq, HS.out, Bool.and_false]; rfl
  · have bS : Boxed (((w.alloc (.cells #[.string s] 259)).alloc (.cells #[.bool true] 4)).alloc (.cells #[.string s] 257)) (w.heap.size + 1) 4 (.bool true) := by
      have := (Boxed.new (w.alloc (.cells #[.string s] 259)) 4 (.bool true)).alloc (.cells #[.string s] 257)
      simpa using this
    have hB0 : Below w.heap.size w (((w.alloc (.cells #[.string s] 259)).alloc (.cells #[.bool true] 4)).alloc (.cells #[.string s] 257)) := (((Below.refl _ w).alloc (Nat.le_refl _) _).alloc (by simp) _).alloc (by simp; omega) _
    have bT := Boxed.new ((w.alloc (.cells #[.string s] 259)).alloc (.cells #[.bool true] 4)) 257 (.string s)
    have hsz : (((w.alloc (.cells #[.string s] 259)).alloc (.cells #[.bool true] 4)).alloc (.cells #[.string s] 257)).heap.size = w.heap.size + 3 := by simp
    simp only [World.size_alloc] at bT
    generalize hW0 : ((w.alloc (.cells #[.string s] 259)).alloc (.cells #[.bool true] 4)).alloc (.cells #[.string s] 257) = W0 at *
    clear hW0
    refine wp_rangeFunc_fix (gf := 238) (lb := #[.pointer (some ⟨w.heap.size + 1 + 1, 0, none⟩)]) rfl (enters_of Tryz.func238 (by kernel_rfl) rfl)
      (letters_stops 8 (w.heap.size + 1 + 1) s W0 (by omega) (by omega) bT.cell) walksK_t KeepsWalks.refl walksK_b (Below.refl _ _) (fun _ => rfl)
      (RightI true w) (RightIx w)
      (OwnFrom.and (OwnFrom.and (Own.from (boxed_own _ _ _) _) (ownFrom_pure _ _)) (ownFrom_below (Nat.le_refl _) (by omega)))
      (fun c => OwnFrom.and (OwnFrom.and (Own.from (boxed_own _ _ _) _) (ownFrom_pure _ _)) (ownFrom_below (Nat.le_refl _) (by omega)))
      ⟨⟨bS, rfl⟩, hB0⟩
      ?_ ?_ ?_ ?_ ?_
    rotate_left
    · intro l x W K hK
      gi_wp2
      exact hK
    · rintro l pre x W hl _ ⟨⟨bS1, hp⟩, hB1⟩ _
      have HP := Lib.hid hp
      clear hp
      have cS := bS1.cell
      have fS := bS1.frozen
      rcases okRune_cases x with ⟨h1', h2', h3', HX⟩ | ⟨h1', HX⟩ | ⟨h1', h2', HX⟩ | ⟨h1', h2', h3', HX⟩
      · gi_wp2
        exact ⟨KeepsFrom.refl _ _, KeepsWalks.refl _, ⟨bS1, by simp [HP.out, HX.out]⟩, hB1⟩
      all_goals
        gi_wp2
        first | (exfalso; omega) | exact ⟨(KeepsOthers.setCell _ _ _).from _, ⟨bS1.set _, by simp [HX.out], rfl⟩, hB1.setCell (p := ⟨w.heap.size + 1, 0, none⟩) (by simp) _⟩
    · rintro D xs W hD hS ⟨⟨bS1, hp⟩, hB1⟩ hK
      have cS := bS1.cell
      have HS := Lib.hid hS
      have HP := Lib.hid hp
      clear hS hp
      go_wp2
      refine ret_mark hK (results_tmp rfl _ _ _) ⟨?_, below_mark hB1 (by omega) hK⟩
      rw [rightB_eq, HH.out, ← HS.out, HP.out]; rfl
    · rintro D c pre W hD hS ⟨⟨bS1, hp, rfl⟩, hB1⟩ hK
      have cS := bS1.cell
      have HS := Lib.hid (hS hp)
      clear hS hp
      go_wp2
      refine ret_mark hK (results_tmp rfl _ _ _) ⟨?_, below_mark hB1 (by omega) hK⟩
      rw [rightB_eq, HS.out, Bool.and_false]; rfl

/-- Check's answer. -/
def errB (b : Bool) : Int := if b then 0 else 160
theorem check_any (s : ByteArray) (w : World) (hs : s.size ≤ maxLen) :
    Calls Tryz.prog 202 #[.string s] w fun e w' => e = .returned (.int .i64 (errB (rightB s.data.toList))) ∧ Below w.heap.size w w' := by
  have HR : ∀ b, rightB s.data.toList = b → Hid (rightB s.data.toList = b) := fun _ h => h
  cases hr : rightB s.data.toList
  all_goals
    have H := HR _ hr
    clear HR hr
    go_enter Tryz.func202, Tryz.ntmps202
    go_wp2_with fail
    refine (right_any _ _ hs).mono ?_
    rintro e w' ⟨rfl, hb⟩
    rw [H.out]
    go_wp2_with fail
    go_ret
    exact ⟨rfl, hb⟩
end Go.Proofs.YtibpagmpdgflmaaGreatDoor
