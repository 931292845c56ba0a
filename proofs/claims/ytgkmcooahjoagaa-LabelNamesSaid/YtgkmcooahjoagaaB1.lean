/- The iterator over a name's letters, and the contract of label.Check. Conditions: none. -/
import Derived.Test.YtgkmcooahjoagaaA1
import Derived.Test.YtgkmcooahjoagaaK0
namespace Go.Proofs.Ytgkmcooahjoagaa
open Go.RowKit Go.Shelf
attribute [local go_sem] Oper.semAt_some

/-- A rune that may stand in a name. -/
def okRune (r : Nat) : Bool := decide (33 ≤ r) && decide (r ≤ 126) && !(decide (r = 47))

theorem okRune_byte (c : UInt8) : okRune c.toNat = okByte c := rfl
theorem okRune_high {r : Nat} (h : 128 ≤ r) : okRune r = false := by
  simp [okRune]; omega
theorem okByte_high {c : UInt8} (h : 128 ≤ c.toNat) : okByte c = false := by
  simp [okByte]; omega
theorem all_take_le {p : UInt8 → Bool} {l : List UInt8} {i j : Nat} (h : i ≤ j) (hi : (l.take i).all p = false) : (l.take j).all p = false := by
  have : l.take i = (l.take j).take i := by rw [List.take_take, Nat.min_eq_left h]
  rw [this] at hi
  rw [Bool.eq_false_iff]; intro hj
  rw [Bool.eq_false_iff] at hi
  apply hi
  rw [List.all_eq_true] at hj ⊢
  exact fun x hx => hj x (List.mem_of_mem_take hx)

/-- One step of the letters. -/
theorem letters_step (s : ByteArray) (pos : Nat) (h : pos < s.size) (pre : List Nat) (hp : pre.all okRune = (s.data.toList.take pos).all okByte) :
    (pre ++ [(Utf8.decode s pos).1]).all okRune = (s.data.toList.take (pos + (Utf8.decode s pos).2)).all okByte := by
  by_cases ha : (s[pos]'h).toNat < 128
  · rw [decode_ascii s pos h ha]
    simp only [List.all_append, List.all_cons, List.all_nil, Bool.and_true]
    rw [take_snoc s pos h, List.all_append, hp]
    simp [okRune_byte]
  · obtain ⟨h1, h2⟩ := decode_high s pos h (by omega)
    have e1 : (pre ++ [(Utf8.decode s pos).1]).all okRune = false := by
      simp [List.all_append, okRune_high h1]
    rw [e1]
    symm
    refine all_take_le (i := pos + 1) (by omega) ?_
    rw [take_snoc s pos h, List.all_append]
    simp [okByte_high (show 128 ≤ (s[pos]'h).toNat by omega)]

theorem letters_stop {s : ByteArray} {pos : Nat} (ha : (s.data.toList.take pos).all okByte = false) : s.data.toList.all okByte = false := by
  have := all_take_le (p := okByte) (l := s.data.toList) (i := pos) (j := max pos s.data.toList.length) (by omega) ha
  rwa [List.take_of_length_le (by omega)] at this

set_option maxRecDepth 100000 in
set_option maxHeartbeats 1000000 in
theorem letters1_in (F : Fence) (n : Nat) (h6 : F.fn 54) (hro : F.round = none) (hn : 1 ≤ n) (l Bn : Nat) (s : ByteArray) (J Jx : List Nat → World → Prop)
    (W : World) (hJ : AbidesFrom W.heap.size J)
    (hY : ∀ pre x W1, J pre W1 → pre.length < s.size → YieldAt F (n - 1) Try.prog l #[.int .i32 (x : Nat)] W1 fun e W' =>
      (e = .returned (.bool true) ∧ J (pre ++ [x]) W' ∧ KeepsWalks W1 W') ∨ (e = .returned (.bool false) ∧ Jx (pre ++ [x]) W'))
    (hc : W.cell? ⟨Bn, 0, none⟩ = some (.string s)) (h0 : J [] W) :
    CallsIn F n Try.prog 54 #[.func (.yield l) #[] #[], .pointer (some ⟨Bn, 0, none⟩)] W fun e W' => (∃ v, e = .returned v) ∧
      ((∃ xs, xs.all okRune = s.data.toList.all okByte ∧ J xs W') ∨ (∃ pre, (pre.all okRune = false → s.data.toList.all okByte = false) ∧ Jx pre W')) := by
  refine callsIn_of_wp Try.func54 rfl h6 ?_ hro
  simp only [Try.ntmps54, List.size_toArray, List.length_cons, List.length_nil, Nat.reduceAdd, Nat.reduceSub, Array.replicate_succ, Array.replicate_zero, List.push_toArray, List.append_toArray, List.nil_append, List.cons_append]
  gi_wp2
  have hwalk : ∀ (wr : World) (pos pos' : Nat), wr.heap[W.heap.size]? = some (.stringIter s pos) → wr.grownBy (wr.iterAt W.heap.size s pos') (some W.heap.size) := fun wr pos pos' hk =>
    ⟨rfl, rfl, rfl, by rw [Lib.iterAt_size]; exact Nat.le_refl _, fun i _ hne => Lib.iterAt_other _ _ _ _ _ (fun e => hne (by rw [e]))⟩
  have hJ0 : J [] (W.iter s 0) := hJ _ W _ none h0 ⟨rfl, rfl, rfl, by simp [World.iter], fun i hi _ => Below.heap_alloc W _ i hi⟩ (fun r e => by cases e)
  have HJ := Lib.hid hJ0
  clear hJ0
  have HY := Lib.hid hY
  clear hY
  have HW := Lib.hid hwalk
  clear hwalk
  have HA := Lib.hid hJ
  clear hJ
  gi_loopw [] (fun wr => ∃ (pre : List Nat) (pos : Nat), J pre wr ∧ wr.heap[W.heap.size]? = some (.stringIter s pos) ∧ pre.length ≤ pos ∧ Hid (pre.all okRune = (s.data.toList.take pos).all okByte)) (fun wr => s.size - wr.iterPos W.heap.size)
  case atStart => exact ⟨[], 0, HJ.out, World.iter_heap _ _ _, Nat.le_refl _, Lib.hid (by simp)⟩
  case round =>
    obtain ⟨pre, pos, hj, hit, hl, HR⟩ := hrel
    by_cases hlt : pos < s.size
    · have hnx := fun ty => Lib.run_next_any_at (P := Try.prog) wr W.heap.size s pos ty hit hlt
      have hj' := HA.out _ wr _ _ hj (HW.out wr pos (pos + (Utf8.decode s pos).2) hit) (fun r e => by cases e; exact ⟨Nat.le_refl _, _, hit, rfl⟩)
      obtain ⟨fn, tmps, assign, body, hy, hR⟩ := HY.out pre (Utf8.decode s pos).1 _ hj' (by omega)
      gi_wp2
      refine hR.mono ?_
      rintro e W3 (⟨rfl, hJ3, hk3⟩ | ⟨rfl, hJx3⟩)
      · have hit3 : W3.heap[W.heap.size]? = some (.stringIter s (pos + (Utf8.decode s pos).2)) := hk3.same _ _ (Lib.iterAt_heap _ _ _ _ _ hit) rfl
        have hd : 1 ≤ (Utf8.decode s pos).2 := by
          by_cases ha : (s[pos]'hlt).toNat < 128
          · rw [decode_ascii s pos hlt ha]; exact Nat.le_refl _
          · exact (decode_high s pos hlt (by omega)).2
        gi_wp2
        go_roundw
        case rel => exact ⟨pre ++ [(Utf8.decode s pos).1], _, hJ3, hit3, by simp; omega, Lib.hid (letters_step s pos hlt pre HR.out)⟩
        case measure => rw [iterPos_of hit3, iterPos_of hit]; omega
      · gi_wp2
        refine bodyPost_ret (results_none rfl _ _ _) rfl ?_
        refine ⟨⟨_, rfl⟩, .inr ⟨_, fun h => ?_, hJx3⟩⟩
        rw [letters_step s pos hlt pre HR.out] at h
        exact letters_stop h
    · have hnx := fun ty => Lib.run_next_end_at (P := Try.prog) wr W.heap.size s pos ty hit hlt
      gi_wp2
      go_end0
      refine ⟨⟨_, rfl⟩, .inl ⟨pre, ?_, hj⟩⟩
      rw [HR.out, List.take_of_length_le (by show s.size ≤ pos; omega)]
end Go.Proofs.Ytgkmcooahjoagaa
