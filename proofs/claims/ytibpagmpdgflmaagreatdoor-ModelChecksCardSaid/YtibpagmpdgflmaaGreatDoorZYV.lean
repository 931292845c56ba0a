/- The contracts of slices.Equal (of texts, of bytes), of the document's Equal, of the model's. Printed by yv.py. Conditions: none. -/
import Derived.Test.YtibpagmpdgflmaaGreatDoorZD2
import Derived.Test.YtibpagmpdgflmaaGreatDoorZYW
import Derived.Test.YtibpagmpdgflmaaGreatDoorShelf
namespace Go.Proofs.YtibpagmpdgflmaaGreatDoor
open Go.RowKit Go.Shelf
attribute [local go_sem] Oper.semAt_some

theorem ofBytes_inj {u v : List UInt8} (h : ofBytes u = ofBytes v) : u = v := by
  have := congrArg bytesOf h
  simpa [bytesOf_ofBytes] using this
theorem toList_beq (u v : List UInt8) : ((ofBytes u).toList == (ofBytes v).toList) = decide (u = v) := by
  rw [Bool.eq_iff_iff, beq_iff_eq, decide_eq_true_iff]
  exact ⟨fun h => ofBytes_inj (toList_inj h), fun h => by rw [h]⟩
/-- 'string(b)', where b's row reads as bytes. -/
theorem conv_row {l : List UInt8} {A : Option Addr} {n c : Nat} {W : World} (hl : l.length = n) (h : RowAt W A (l.map encB)) : (convert 25 9 (.slice A n c)).run Tryz.prog W = .ok (.string (ofBytes l)) W := by
  cases l with
  | nil =>
    subst hl
    cases A with
    | none => exact run_convert_bytes_nil (P := Tryz.prog) W _ 5 Tryz.underlyingBytes Tryz.underlyingByte 0 c _ Tryz.underlyingStr
    | some a => exact run_convert_bytes_back (P := Tryz.prog) W _ _ 5 a c [] Tryz.underlyingBytes Tryz.underlyingByte Tryz.underlyingStr (fun j hj => absurd hj (by simp))
  | cons x l =>
    obtain ⟨g, off, rfl, hgl, hgc⟩ := h (by simp)
    have := run_convert_bytes_back (P := Tryz.prog) W 25 9 5 ⟨g, off, none⟩ c (x :: l) Tryz.underlyingBytes Tryz.underlyingByte Tryz.underlyingStr (fun j hj => by
      rw [plain_add]
      refine hgc j _ ?_
      rw [List.getElem?_map, List.getElem?_eq_getElem hj]; rfl)
    rw [hl] at this
    exact this
theorem allEq_dec {α : Type} [Inhabited α] [DecidableEq α] (eq : α → α → Bool) (he : ∀ x y, eq x y = decide (x = y)) : ∀ xs ys : List α, Lib.allEq eq xs ys = decide (xs = ys)
  | [], [] => by simp [Lib.allEq]
  | [], _ :: _ => by simp [Lib.allEq]
  | _ :: _, [] => by simp [Lib.allEq]
  | x :: xs, y :: ys => by simp only [Lib.allEq, allEq_dec eq he xs ys, he]; rw [Bool.eq_iff_iff]; simp
def intB (x : UInt8) : Int := x.toNat
theorem intB_inj : ∀ u v : List UInt8, u.map intB = v.map intB → u = v
  | [], [], _ => rfl
  | [], _ :: _, h => by cases h
  | _ :: _, [], h => by cases h
  | x :: u, y :: v, h => by
    rw [List.map_cons, List.map_cons] at h
    injection h with h1 h2
    rw [intB_inj u v h2, show x = y from UInt8.toNat.inj (by unfold intB at h1; omega)]
set_option maxRecDepth 100000 in
theorem eqT_any (xs ys : List ByteArray) (A B : Option Addr) (n c m d : Nat) (W : World) (h1 : xs.length = n) (h2 : ys.length = m) (hn : n ≤ maxLen) (hm : m ≤ maxLen) (r1 : RowAt W A (xs.map .string)) (r2 : RowAt W B (ys.map .string)) :
    Calls Tryz.prog 30 #[.slice A n c, .slice B m d] W fun e W' => e = .returned (.bool (decide (xs = ys))) ∧ Below W.heap.size W W' := by
  unfold maxLen at hn hm
  by_cases hnm : n = m
  · subst hnm
    by_cases h0 : n = 0
    · subst h0
      rw [List.eq_nil_of_length_eq_zero h1, List.eq_nil_of_length_eq_zero h2]
      clear r1 r2 h1 h2 hm hn
      go_enter Tryz.func30, Tryz.ntmps30
      go_wp2
      go_loopg [13] 0 (fun _ s13 wr => s13 = .int .i64 0 ∧ wr = W)
      case atStart => exact ⟨rfl, rfl⟩
      case round =>
        obtain ⟨rfl, rfl⟩ := hrel
        go_wp2
        go_ret
        exact ⟨rfl, Below.refl _ _⟩
    · obtain ⟨b1, o1, rfl, _, k1⟩ := r1 (by rw [List.length_map]; omega)
      obtain ⟨b2, o2, rfl, _, k2⟩ := r2 (by rw [List.length_map]; omega)
      refine (AnyE.slices_Equal Tryz.equalText Value.string (fun x y => x.toList == y.toList) (NeqAt.string _ _) b1 o1 n c b2 o2 n d xs ys W (by omega) (by omega) (by omega) (by omega) (fun j hj => ?_) (fun j hj => ?_)).mono ?_
      · exact k1 j _ (by rw [List.getElem?_map, List.getElem?_eq_getElem hj, getElem!_pos xs j hj]; rfl)
      · exact k2 j _ (by rw [List.getElem?_map, List.getElem?_eq_getElem hj, getElem!_pos ys j hj]; rfl)
      · rintro e w' ⟨rfl, q, rfl⟩
        rw [List.take_of_length_le (by omega), List.take_of_length_le (by omega), allEq_dec _ (fun x y => by rw [Bool.eq_iff_iff, beq_iff_eq, decide_eq_true_iff]; exact ⟨fun h => toList_inj h, fun h => by rw [h]⟩)]
        exact ⟨rfl, below_drewN (Below.refl _ _) q⟩
  · rw [decide_eq_false (fun e => hnm (by rw [← h1, ← h2, e]))]
    have hne : ((n : Int) != (m : Int)) = true := by simp; omega
    clear r1 r2
    go_enter Tryz.func30, Tryz.ntmps30
    go_wp2
    go_ret
    exact ⟨rfl, Below.refl _ _⟩
set_option maxRecDepth 100000 in
theorem eqB_any (xs ys : List UInt8) (A B : Option Addr) (n c m d : Nat) (W : World) (h1 : xs.length = n) (h2 : ys.length = m) (hn : n ≤ maxLen) (hm : m ≤ maxLen) (r1 : RowAt W A (xs.map encB)) (r2 : RowAt W B (ys.map encB)) :
    Calls Tryz.prog 31 #[.slice A n c, .slice B m d] W fun e W' => e = .returned (.bool (decide (xs = ys))) ∧ Below W.heap.size W W' := by
  unfold maxLen at hn hm
  by_cases hnm : n = m
  · subst hnm
    by_cases h0 : n = 0
    · subst h0
      rw [List.eq_nil_of_length_eq_zero h1, List.eq_nil_of_length_eq_zero h2]
      clear r1 r2 h1 h2 hm hn
      go_enter Tryz.func31, Tryz.ntmps31
      go_wp2
      go_loopg [13] 0 (fun _ s13 wr => s13 = .int .i64 0 ∧ wr = W)
      case atStart => exact ⟨rfl, rfl⟩
      case round =>
        obtain ⟨rfl, rfl⟩ := hrel
        go_wp2
        go_ret
        exact ⟨rfl, Below.refl _ _⟩
    · obtain ⟨b1, o1, rfl, _, k1⟩ := r1 (by rw [List.length_map]; omega)
      obtain ⟨b2, o2, rfl, _, k2⟩ := r2 (by rw [List.length_map]; omega)
      have em : ∀ l : List UInt8, l.map encB = (l.map intB).map (Value.int .u8) := fun l => by rw [List.map_map]; rfl
      rw [em] at k1 k2
      refine (AnyE.slices_Equal Tryz.equalByte (Value.int .u8) (fun x y => x == y) (NeqAt.int _ _ _) b1 o1 n c b2 o2 n d (xs.map intB) (ys.map intB) W (by rw [List.length_map]; omega) (by rw [List.length_map]; omega) (by omega) (by omega) (fun j hj => ?_) (fun j hj => ?_)).mono ?_
      · exact k1 j _ (by rw [List.getElem?_map (f := Value.int .u8), List.getElem?_eq_getElem hj, getElem!_pos _ j hj]; rfl)
      · exact k2 j _ (by rw [List.getElem?_map (f := Value.int .u8), List.getElem?_eq_getElem hj, getElem!_pos _ j hj]; rfl)
      · rintro e w' ⟨rfl, q, rfl⟩
        rw [List.take_of_length_le (by rw [List.length_map]; omega), List.take_of_length_le (by rw [List.length_map]; omega), allEq_dec _ (fun x y => by rw [Bool.eq_iff_iff, beq_iff_eq, decide_eq_true_iff])]
        refine ⟨?_, below_drewN (Below.refl _ _) q⟩
        have hiff : decide (xs.map intB = ys.map intB) = decide (xs = ys) := by rw [Bool.eq_iff_iff, decide_eq_true_iff, decide_eq_true_iff]; exact ⟨intB_inj _ _, fun h => by rw [h]⟩
        rw [hiff]
  · rw [decide_eq_false (fun e => hnm (by rw [← h1, ← h2, e]))]
    have hne : ((n : Int) != (m : Int)) = true := by simp; omega
    clear r1 r2
    go_enter Tryz.func31, Tryz.ntmps31
    go_wp2
    go_ret
    exact ⟨rfl, Below.refl _ _⟩
/-- Whether two results are the same. -/
def eqR (a0 a1 a2 a3 b0 b1 b2 b3 : Int) (xs ys : List ByteArray) (u v : List UInt8) : Bool := (a0 == b0) && (a1 == b1) && (a2 == b2) && (a3 == b3) && eqL xs ys && decide (u = v)
set_option maxRecDepth 100000 in
set_option maxHeartbeats 4000000 in
theorem requal_any (a0 a1 a2 a3 b0 b1 b2 b3 : Int) (xs ys : List ByteArray) (u v : List UInt8) (NA NB BA BB : Option Addr) (nn nc bn bc mn mc cn cc : Nat) (W : World) (h1 : xs.length = nn) (h2 : ys.length = mn) (h3 : u.length = bn) (h4 : v.length = cn) (hm : nn ≤ maxLen)
    (r1 : RowAt W NA (xs.map .string)) (r2 : RowAt W NB (ys.map .string)) (r3 : RowAt W BA (u.map encB)) (r4 : RowAt W BB (v.map encB)) :
    Calls Tryz.prog 11 #[resV a0 a1 a2 a3 NA nn nc BA bn bc, resV b0 b1 b2 b3 NB mn mc BB cn cc] W fun e W' => e = .returned (.bool (eqR a0 a1 a2 a3 b0 b1 b2 b3 xs ys u v)) ∧ Below W.heap.size W W' := by
  obtain ⟨W0, hW0⟩ : ∃ W0, (W.alloc (.cells #[.int .i64 a0, .int .i64 a1, .int .i64 a2, .int .i64 a3, .slice NA nn nc, .slice BA bn bc] 27)).alloc (.cells #[.int .i64 b0, .int .i64 b1, .int .i64 b2, .int .i64 b3, .slice NB mn mc, .slice BB cn cc] 27) = W0 := ⟨_, rfl⟩
  have hb0 : Below W.heap.size W W0 := by rw [← hW0]; exact ((Below.refl _ _).alloc (Nat.le_refl _) _).alloc (by simp) _
  have HT := Lib.hid (texts_anyD xs ys NA NB nn mn nc mc W0 h1 h2 hm (r1.below hb0) (r2.below hb0))
  have HU := Lib.hid (fun W' (hb : Below W0.heap.size W0 W') => conv_row (c := bc) h3 ((r3.below hb0).below hb))
  have HV := Lib.hid (fun W' (hb : Below W0.heap.size W0 W') => conv_row (c := cc) h4 ((r4.below hb0).below hb))
  have HUV := Lib.hid (toList_beq u v)
  have hs0 : W0.heap.size = W.heap.size + 2 := by rw [← hW0]; simp
  have hA5 : W0.cell? ⟨W.heap.size, 5, none⟩ = some (.slice BA bn bc) := by
    rw [← hW0]
    have := (cellsAt_new W #[.int .i64 a0, .int .i64 a1, .int .i64 a2, .int .i64 a3, .slice NA nn nc, .slice BA bn bc] 27 6 (cellsO' a0 a1 a2 a3 NA nn nc BA bn bc) fun i hi => match i, hi with | 0, _ => rfl | 1, _ => rfl | 2, _ => rfl | 3, _ => rfl | 4, _ => rfl | 5, _ => rfl).below (m := W.heap.size + 1) (W' := (W.alloc (.cells #[.int .i64 a0, .int .i64 a1, .int .i64 a2, .int .i64 a3, .slice NA nn nc, .slice BA bn bc] 27)).alloc (.cells #[.int .i64 b0, .int .i64 b1, .int .i64 b2, .int .i64 b3, .slice NB mn mc, .slice BB cn cc] 27)) ((Below.refl _ _).alloc (by simp) _) (by omega)
    exact this.1 5 (by omega)
  have hB5 : W0.cell? ⟨W.heap.size + 1, 5, none⟩ = some (.slice BB cn cc) := by
    rw [← hW0]
    have := cellsAt_new (W.alloc (.cells #[.int .i64 a0, .int .i64 a1, .int .i64 a2, .int .i64 a3, .slice NA nn nc, .slice BA bn bc] 27)) #[.int .i64 b0, .int .i64 b1, .int .i64 b2, .int .i64 b3, .slice NB mn mc, .slice BB cn cc] 27 6 (cellsO' b0 b1 b2 b3 NB mn mc BB cn cc) fun i hi => match i, hi with | 0, _ => rfl | 1, _ => rfl | 2, _ => rfl | 3, _ => rfl | 4, _ => rfl | 5, _ => rfl
    rw [show (W.alloc (.cells #[.int .i64 a0, .int .i64 a1, .int .i64 a2, .int .i64 a3, .slice NA nn nc, .slice BA bn bc] 27)).heap.size = W.heap.size + 1 from by simp] at this
    exact this.1 5 (by omega)
  have HA5 := Lib.hid hA5
  have HB5 := Lib.hid hB5
  have HW0 := Lib.hid hW0
  have HB0 := Lib.hid hb0
  clear hA5 hB5 hW0 hb0 r1 r2 r3 r4 h1 h2 h3 h4
  unfold eqR
  generalize eqL xs ys = t at *
  generalize decide (u = v) = s at *
  generalize ofBytes u = U at *
  generalize ofBytes v = V at *
  unfold resV
  have step : ∀ (P : Prop), (a0 == b0) = false ∨ ((a0 == b0) = true ∧ (a1 == b1) = false) ∨ ((a0 == b0) = true ∧ (a1 == b1) = true ∧ (a2 == b2) = false) ∨ ((a0 == b0) = true ∧ (a1 == b1) = true ∧ (a2 == b2) = true ∧ (a3 == b3) = false) ∨ ((a0 == b0) = true ∧ (a1 == b1) = true ∧ (a2 == b2) = true ∧ (a3 == b3) = true) := fun _ => by
    cases a0 == b0 <;> cases a1 == b1 <;> cases a2 == b2 <;> cases a3 == b3 <;> simp
  have HBW : Hid (Below W.heap.size W W0) := HB0
  rcases step True with g0 | ⟨g0, g1⟩ | ⟨g0, g1, g2⟩ | ⟨g0, g1, g2, g3⟩ | ⟨g0, g1, g2, g3⟩
  · rw [g0]
    go_enter Tryz.func11, Tryz.ntmps11
    go_wp2_with fail
    go_ret
    rw [HW0.out]
    exact ⟨rfl, HB0.out⟩
  · rw [g0, g1]
    go_enter Tryz.func11, Tryz.ntmps11
    go_wp2_with fail
    go_ret
    rw [HW0.out]
    exact ⟨rfl, HB0.out⟩
  · rw [g0, g1, g2]
    go_enter Tryz.func11, Tryz.ntmps11
    go_wp2_with fail
    go_ret
    rw [HW0.out]
    exact ⟨rfl, HB0.out⟩
  · rw [g0, g1, g2, g3]
    go_enter Tryz.func11, Tryz.ntmps11
    go_wp2_with fail
    go_ret
    rw [HW0.out]
    exact ⟨rfl, HB0.out⟩
  · rw [g0, g1, g2, g3]
    cases t with
    | false =>
      go_enter Tryz.func11, Tryz.ntmps11
      go_wp2_with (go_at_call 29; rw [HW0.out]; refine HT.out.mono ?_; rintro e w2 ⟨rfl, hb2⟩)
      go_ret
      exact ⟨rfl, HB0.out.trans (hb2.mono (by omega))⟩
    | true =>
      go_enter Tryz.func11, Tryz.ntmps11
      go_wp2_with (go_at_call 29; rw [HW0.out]; refine HT.out.mono ?_; rintro e w2 ⟨rfl, hb2⟩; have q1 : w2.cell? ⟨W.heap.size, 5, none⟩ = some (.slice BA bn bc) := (hb2.cell (p := ⟨W.heap.size, 5, none⟩) (by show W.heap.size < _; omega)).trans HA5.out; have q2 : w2.cell? ⟨W.heap.size + 1, 5, none⟩ = some (.slice BB cn cc) := (hb2.cell (p := ⟨W.heap.size + 1, 5, none⟩) (by show W.heap.size + 1 < _; omega)).trans HB5.out; have q3 := HU.out _ hb2; have q4 := HV.out _ hb2; have q5 := HUV.out)
      go_ret
      exact ⟨by simp, HB0.out.trans (hb2.mono (by omega))⟩
set_option maxRecDepth 100000 in
set_option maxHeartbeats 4000000 in
theorem mequal_any (a0 a1 a2 a3 b0 b1 b2 b3 : Int) (xs ys : List ByteArray) (u v : List UInt8) (NA NB BA BB : Option Addr) (nn nc bn bc mn mc cn cc : Nat) (W : World) (h1 : xs.length = nn) (h2 : ys.length = mn) (h3 : u.length = bn) (h4 : v.length = cn) (hm : nn ≤ maxLen) (hm2 : mn ≤ maxLen) (hm3 : bn ≤ maxLen) (hm4 : cn ≤ maxLen)
    (r1 : RowAt W NA (xs.map .string)) (r2 : RowAt W NB (ys.map .string)) (r3 : RowAt W BA (u.map encB)) (r4 : RowAt W BB (v.map encB)) :
    Calls Tryz.prog 12 #[resV a0 a1 a2 a3 NA nn nc BA bn bc, resV b0 b1 b2 b3 NB mn mc BB cn cc] W fun e W' => e = .returned (.bool (eqR a0 a1 a2 a3 b0 b1 b2 b3 xs ys u v)) ∧ Below W.heap.size W W' := by
  obtain ⟨W0, hW0⟩ : ∃ W0, (W.alloc (.cells #[.int .i64 a0, .int .i64 a1, .int .i64 a2, .int .i64 a3, .slice NA nn nc, .slice BA bn bc] 27)).alloc (.cells #[.int .i64 b0, .int .i64 b1, .int .i64 b2, .int .i64 b3, .slice NB mn mc, .slice BB cn cc] 27) = W0 := ⟨_, rfl⟩
  have hb0 : Below W.heap.size W W0 := by rw [← hW0]; exact ((Below.refl _ _).alloc (Nat.le_refl _) _).alloc (by simp) _
  have HT := Lib.hid (eqT_any xs ys NA NB nn nc mn mc W0 h1 h2 hm hm2 (r1.below hb0) (r2.below hb0))
  have HBB := Lib.hid (fun W' (hb : Below W0.heap.size W0 W') => eqB_any u v BA BB bn bc cn cc W' h3 h4 hm3 hm4 ((r3.below hb0).below hb) ((r4.below hb0).below hb))
  have hs0 : W0.heap.size = W.heap.size + 2 := by rw [← hW0]; simp
  have hA5 : W0.cell? ⟨W.heap.size, 5, none⟩ = some (.slice BA bn bc) := by
    rw [← hW0]
    have := (cellsAt_new W #[.int .i64 a0, .int .i64 a1, .int .i64 a2, .int .i64 a3, .slice NA nn nc, .slice BA bn bc] 27 6 (cellsO' a0 a1 a2 a3 NA nn nc BA bn bc) fun i hi => match i, hi with | 0, _ => rfl | 1, _ => rfl | 2, _ => rfl | 3, _ => rfl | 4, _ => rfl | 5, _ => rfl).below (m := W.heap.size + 1) (W' := (W.alloc (.cells #[.int .i64 a0, .int .i64 a1, .int .i64 a2, .int .i64 a3, .slice NA nn nc, .slice BA bn bc] 27)).alloc (.cells #[.int .i64 b0, .int .i64 b1, .int .i64 b2, .int .i64 b3, .slice NB mn mc, .slice BB cn cc] 27)) ((Below.refl _ _).alloc (by simp) _) (by omega)
    exact this.1 5 (by omega)
  have hB5 : W0.cell? ⟨W.heap.size + 1, 5, none⟩ = some (.slice BB cn cc) := by
    rw [← hW0]
    have := cellsAt_new (W.alloc (.cells #[.int .i64 a0, .int .i64 a1, .int .i64 a2, .int .i64 a3, .slice NA nn nc, .slice BA bn bc] 27)) #[.int .i64 b0, .int .i64 b1, .int .i64 b2, .int .i64 b3, .slice NB mn mc, .slice BB cn cc] 27 6 (cellsO' b0 b1 b2 b3 NB mn mc BB cn cc) fun i hi => match i, hi with | 0, _ => rfl | 1, _ => rfl | 2, _ => rfl | 3, _ => rfl | 4, _ => rfl | 5, _ => rfl
    rw [show (W.alloc (.cells #[.int .i64 a0, .int .i64 a1, .int .i64 a2, .int .i64 a3, .slice NA nn nc, .slice BA bn bc] 27)).heap.size = W.heap.size + 1 from by simp] at this
    exact this.1 5 (by omega)
  have HA5 := Lib.hid hA5
  have HB5 := Lib.hid hB5
  have HW0 := Lib.hid hW0
  have HB0 := Lib.hid hb0
  clear hA5 hB5 hW0 hb0 r1 r2 r3 r4 h1 h2 h3 h4
  unfold eqR eqL
  generalize decide (xs = ys) = t at *
  generalize decide (u = v) = s at *
  unfold resV
  have step : ∀ (P : Prop), (a0 == b0) = false ∨ ((a0 == b0) = true ∧ (a1 == b1) = false) ∨ ((a0 == b0) = true ∧ (a1 == b1) = true ∧ (a2 == b2) = false) ∨ ((a0 == b0) = true ∧ (a1 == b1) = true ∧ (a2 == b2) = true ∧ (a3 == b3) = false) ∨ ((a0 == b0) = true ∧ (a1 == b1) = true ∧ (a2 == b2) = true ∧ (a3 == b3) = true) := fun _ => by
    cases a0 == b0 <;> cases a1 == b1 <;> cases a2 == b2 <;> cases a3 == b3 <;> simp
  have HBW : Hid (Below W.heap.size W W0) := HB0
  rcases step True with g0 | ⟨g0, g1⟩ | ⟨g0, g1, g2⟩ | ⟨g0, g1, g2, g3⟩ | ⟨g0, g1, g2, g3⟩
  · rw [g0]
    go_enter Tryz.func12, Tryz.ntmps12
    go_wp2_with fail
    go_ret
    rw [HW0.out]
    exact ⟨rfl, HB0.out⟩
  · rw [g0, g1]
    go_enter Tryz.func12, Tryz.ntmps12
    go_wp2_with fail
    go_ret
    rw [HW0.out]
    exact ⟨rfl, HB0.out⟩
  · rw [g0, g1, g2]
    go_enter Tryz.func12, Tryz.ntmps12
    go_wp2_with fail
    go_ret
    rw [HW0.out]
    exact ⟨rfl, HB0.out⟩
  · rw [g0, g1, g2, g3]
    go_enter Tryz.func12, Tryz.ntmps12
    go_wp2_with fail
    go_ret
    rw [HW0.out]
    exact ⟨rfl, HB0.out⟩
  · rw [g0, g1, g2, g3]
    cases t with
    | false =>
      go_enter Tryz.func12, Tryz.ntmps12
      go_wp2_with (go_at_call 30; rw [HW0.out]; refine HT.out.mono ?_; rintro e w2 ⟨rfl, hb2⟩)
      go_ret
      exact ⟨rfl, HB0.out.trans (hb2.mono (by omega))⟩
    | true =>
      go_enter Tryz.func12, Tryz.ntmps12
      go_wp2_with (first
        | (go_at_call 30; rw [HW0.out]; refine HT.out.mono ?_; rintro e w2 ⟨rfl, hb2⟩; have q1 : w2.cell? ⟨W.heap.size, 5, none⟩ = some (.slice BA bn bc) := (hb2.cell (p := ⟨W.heap.size, 5, none⟩) (by show W.heap.size < W0.heap.size; omega)).trans HA5.out; have q2 : w2.cell? ⟨W.heap.size + 1, 5, none⟩ = some (.slice BB cn cc) := (hb2.cell (p := ⟨W.heap.size + 1, 5, none⟩) (by show W.heap.size + 1 < W0.heap.size; omega)).trans HB5.out)
        | (go_at_call 31; refine (HBB.out _ hb2).mono ?_; rintro e w3 ⟨rfl, hb3⟩))
      go_ret
      exact ⟨by simp, HB0.out.trans ((hb2.trans (hb3.mono hb2.size)).mono (by omega))⟩
end Go.Proofs.YtibpagmpdgflmaaGreatDoor
