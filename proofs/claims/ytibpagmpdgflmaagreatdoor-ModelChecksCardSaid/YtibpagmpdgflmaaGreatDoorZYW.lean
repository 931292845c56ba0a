/- General lemmas, out of walk's and look's texts. Printed by yb.py. Rows of structs: their cells; the law's few. Conditions: none. -/
import Derived.Test.YtibpagmpdgflmaaGreatDoorZP1
import Derived.Test.YtibpagmpdgflmaaGreatDoorZW3
import Derived.Laws.AppendOwn
import Derived.Laws.OwnMore
import Derived.Lib.OwnBridge
namespace Go.Proofs.YtibpagmpdgflmaaGreatDoor
open Go.RowKit Go.Shelf
section
attribute [local go_sem] Oper.semAt_some
variable {W W' : World} {X n : Nat} {f g : Nat → Value}
theorem owns_slice {w : World} {base : Nat} {e : TypeId} {size n : Nat} {v : Value} {xs : List Value} (h : w.ownsRow base e size v n xs) : ∃ A c, v = .slice A n c ∧ n ≤ c ∧ c ≤ maxLen := by
  rcases h.2 with ⟨e0, e1⟩ | ⟨g, cap, cur, hv, _, _, h1, h2, _⟩
  · subst e1; exact ⟨none, 0, e0, Nat.le_refl _, Nat.zero_le _⟩
  · exact ⟨_, _, hv, h1, h2⟩
theorem cell_new (W : World) (cs : Array Value) (T : TypeId) (i : Nat) (v : Value) (h : cs[i]? = some v) : (W.alloc (.cells cs T)).cell? ⟨W.heap.size, i, none⟩ = some v := by
  rw [cell_of_row (W.alloc (.cells cs T)) W.heap.size i cs T (0, 0) (World.alloc_heap_new _ _)]; exact h
/-- The first n cells of a block, none of it frozen. -/
def CellsAt (W : World) (X n : Nat) (f : Nat → Value) : Prop := (∀ i, i < n → W.cell? ⟨X, i, none⟩ = some (f i)) ∧ ∀ i, W.frozen? ⟨X, i, none⟩ = false
theorem CellsAt.below {m : Nat} (h : CellsAt W X n f) (hb : Below m W W') (hX : X < m) : CellsAt W' X n f := ⟨fun i hi => (hb.cell (p := ⟨X, i, none⟩) hX).trans (h.1 i hi), fun i => (hb.frozen (p := ⟨X, i, none⟩) hX).trans (h.2 i)⟩
theorem CellsAt.set {B i : Nat} {v : Value} (h : CellsAt W X n f) (hne : B ≠ X) : CellsAt (W.setCell ⟨B, i, none⟩ v) X n f :=
  ⟨fun j hj => (World.cell?_setCell_other _ _ _ _ (by intro e; injection e with e; exact hne e)).trans (h.1 j hj), fun j => (World.frozen?_setCell _ _ _ _).trans (h.2 j)⟩
theorem ownsRow_slice {w : World} {base : Nat} {e : TypeId} {size : Nat} {v : Value} {n : Nat} {xs : List Value} (h : w.ownsRow base e size v n xs) : ∃ A c, v = .slice A n c ∧ n ≤ c ∧ c ≤ maxLen := by
  rcases h.2 with ⟨h1, h2⟩ | ⟨g, cap, cur, h1, _, _, h2, h3, _⟩
  · exact ⟨none, 0, by rw [h1, h2], by omega, by simp [maxLen]⟩
  · exact ⟨_, _, h1, h2, h3⟩
theorem cellsAt_new (W : World) (cs : Array Value) (T : TypeId) (n : Nat) (f : Nat → Value) (h : ∀ i, i < n → cs[i]? = some (f i)) : CellsAt (W.alloc (.cells cs T)) W.heap.size n f :=
  ⟨fun i hi => cell_new W cs T i _ (h i hi), fun i => (World.frozen?_of_block (w := W.alloc (.cells cs T)) rfl).trans (by simp)⟩
theorem CellsAt.upd {W : World} {X n i : Nat} {f : Nat → Value} {v : Value} (h : CellsAt W X n f) (hi : i < n) : CellsAt (W.setCell ⟨X, i, none⟩ v) X n (fun j => if j = i then v else f j) := by
  refine ⟨fun j hj => ?_, fun j => (World.frozen?_setCell _ _ _ _).trans (h.2 j)⟩
  by_cases e : j = i
  · subst e
    rw [World.cell?_setCell_same' _ _ _ (by rw [h.1 j hj]; rfl)]
    exact congrArg some (if_pos rfl).symm
  · rw [World.cell?_setCell_other _ _ _ _ (by intro h; injection h with _ h; exact e h.symm), h.1 j hj]
    exact congrArg some (if_neg e).symm
theorem cells_congr {W : World} {X n : Nat} {f g : Nat → Value} (h : CellsAt W X n f) (hg : ∀ i, i < n → f i = g i) : CellsAt W X n g := ⟨fun i hi => (h.1 i hi).trans (congrArg some (hg i hi)), h.2⟩
theorem whichever_strong {F : Fence} {n : Nat} {P : Program} {ops : Array Oper} {Q : Exit → Act → World → Prop} {md : Region.Mode} {S S' : World → Prop} {late : List Nat} (hS : ∀ w, S' w → S w) :
    ∀ (f : Nat) (l : Array Bool) (a : Act) (w : World), Whichever F n P ops Q md S' late f l a w → Whichever F n P ops Q md S late f l a w
  | 0, _, _, _, h => h
  | f + 1, l, a, w, h => ⟨h.1, fun i hi => wpOpIn_mono (fun a' w' h' => ⟨fun hn => hS _ (h'.1 hn), whichever_strong hS f _ a' w' h'.2⟩) (h.2 i hi)⟩
/-- An operation's cells. -/
def cellsOp (k : Int) (p d : ByteArray) (a n : Int) (A : Option Addr) (m c : Nat) : Nat → Value
  | 0 => .int .i64 k
  | 1 => .string p
  | 2 => .string d
  | 3 => .int .i64 a
  | 4 => .int .i64 n
  | _ => .slice A m c
def opV (k : Int) (p d : ByteArray) (a n : Int) (A : Option Addr) (m c : Nat) : Value := .agg #[.int .i64 k, .string p, .string d, .int .i64 a, .int .i64 n, .slice A m c]
/-- A result: its error, kind, links, number, names, bytes. -/
structure ResP where
  no : Nat
  kind : Nat
  links : Nat
  n : Nat
  names : List (List UInt8)
  bytes : List UInt8
def resZero : ResP := ⟨0, 0, 0, 0, [], []⟩
/-- Which operations may be. -/
def checkN (k : Int) (path dest : List UInt8) (a n : Int) (bl : Nat) : Int :=
  if k < 1 ∨ 11 < k then 2
  else if (readP path).1 ≠ 0 then (readP path).1
  else if (k = 8 ∨ k = 9) ∧ (readP dest).1 ≠ 0 then (readP dest).1
  else if k = 3 then (if a < 0 ∨ n < 0 then 2 else 0)
  else if k = 10 then (if a < 0 then 2 else if 448 < a ∨ 448 < a + bl then 190 else 0)
  else if k = 11 then (if n < 0 then 2 else if 448 < n then 190 else 0)
  else 0
theorem fits1_any (n : Int) (W : World) : Calls Tryz.prog 180 #[.int .i64 n] W fun e W' => e = .returned (.bool (decide (448 < n))) ∧ W' = W := by
  go_enter Tryz.func180, Tryz.ntmps180
  go_wp2
  go_ret
  exact ⟨rfl, rfl⟩
theorem fileFits_any (n : Nat) (hn : n ≤ 448) (b : Nat) (W : World) (hb : b < W.heap.size) (hc : W.cell? ⟨b, 0, none⟩ = some (.int .i64 n)) :
    Calls Tryz.prog 156 #[.slice (some ⟨b, 0, none⟩) 1 1] W fun e W' => e = .returned (.bool true) ∧ Below W.heap.size W W' := by
  have hC := AnyE.slices_ContainsFunc Tryz.containsInt (enc := fun n : Int => .int .i64 n) (fun x => decide (448 < x)) 180 #[] (enters_of Tryz.func180 (by kernel_rfl) rfl)
    b 0 1 1 [(n : Int)] W
    (fun W1 x _ => by
      refine (fits1_any x W1).mono ?_
      rintro e w' ⟨rfl, rfl⟩
      exact ⟨rfl, 0, rfl⟩)
    (by simp) (by omega)
    (fun j hj => by
      have : j = 0 := by simp at hj; omega
      subst this
      exact hc)
  have e1 : ([(n : Int)].take 1).any (fun x => decide (448 < x)) = false := by simp; omega
  rw [e1] at hC
  have HC := Lib.hid hC
  clear hC e1
  go_enter Tryz.func156, Tryz.ntmps156
  go_wp2_with (go_at_call 157; refine HC.out.mono ?_; rintro e w' ⟨rfl, k, rfl⟩)
  go_ret
  exact ⟨rfl, below_drewN (Below.refl _ _) k⟩
/-- A slice of bytes that is fresh. -/
def FreshB (base : Nat) (W : World) (bs : List UInt8) (v : Value) : Prop :=
  ∃ A n c, v = .slice A n c ∧ bs.length = n ∧ n ≤ c ∧ c ≤ maxLen ∧ RowAt W A (bs.map encB) ∧ ∀ ad, A = some ad → base ≤ ad.block
theorem cloneFresh (bs : List UInt8) (b off n c : Nat) (w : World) (hl : bs.length = n) (hn : n ≤ 100000) (h : RowAt w (some ⟨b, off, none⟩) (bs.map encB)) :
    Calls Tryz.prog 83 #[.slice (some ⟨b, off, none⟩) n c] w fun e w' => ∃ v, e = .returned v ∧ FreshB w.heap.size w' bs v ∧ Below w.heap.size w w' := by
  obtain ⟨i0, hi, hz0, hz1, hz2⟩ := info_parts Tryz.infoU8
  have hc := AnyE.slices_Clone Tryz.cloneByte i0 (.int .u8 0) 1 1 hi hz0 hz1 hz2 rfl (by decide) Tryz.sizeOf5 b off n c (bs.map encB) w (by rw [List.length_map, hl, Nat.mul_one]) (by unfold maxLen; omega) (by omega)
    (fun j u hu => by
      obtain ⟨b', off', e, _, hc⟩ := h.get hu
      cases e; exact hc)
    (fun u hu => by obtain ⟨x, _, rfl⟩ := List.mem_map.1 hu; rfl)
  change Calls Tryz.prog 83 _ _ _ at hc
  refine hc.mono ?_
  rintro e w' ⟨v, rfl, hown, _, hb⟩
  have hlt := hown.lt
  obtain ⟨A, cap, rfl, h1, h2⟩ := owns_slice hown
  refine ⟨_, rfl, ⟨A, n, cap, rfl, hl, h1, h2, row_of_own hown, fun ad e => ?_⟩, hb⟩
  rcases hown.2 with ⟨h3, _⟩ | ⟨g, cap', cur, h3, h4, _⟩
  · cases h3; cases e
  · cases h3; cases e; exact h4
theorem cloneNil (w : World) (c : Nat) :
    Calls Tryz.prog 83 #[.slice none 0 c] w fun e w' => ∃ v, e = .returned v ∧ FreshB w.heap.size w' [] v ∧ Below w.heap.size w w' := by
  refine (AnyE.slices_Clone_nil Tryz.cloneByte 0 c w).mono ?_
  rintro e w' ⟨rfl, rfl⟩
  exact ⟨_, rfl, ⟨none, 0, 0, rfl, rfl, Nat.le_refl _, by simp [maxLen], RowAt.nil, fun _ e => by cases e⟩, Below.refl _ _⟩
theorem RowAt.drop {w : World} {b off : Nat} {cs : List Value} (h : RowAt w (some ⟨b, off, none⟩) cs) (k : Nat) : RowAt w (some ⟨b, off + k, none⟩) (cs.drop k) := fun hn => by
  rw [List.length_drop] at hn
  obtain ⟨b', off', e, hb, hc⟩ := h (by omega)
  cases e
  refine ⟨b, off + k, rfl, hb, fun j u hu => ?_⟩
  rw [List.getElem?_drop] at hu
  rw [Nat.add_assoc]
  exact hc _ _ hu
set_option maxRecDepth 100000 in
set_option maxHeartbeats 4000000 in
theorem fileRead_any (bs : List UInt8) (b off n c a m : Nat) (W : World) (hl : bs.length = n) (hn : n ≤ 448) (hnc : n ≤ c) (hcm : c ≤ maxLen) (ha : a < 9223372036854775808) (hm : m < 9223372036854775808) (h : RowAt W (some ⟨b, off, none⟩) (bs.map encB)) :
    Calls Tryz.prog 133 #[.slice (some ⟨b, off, none⟩) n c, .int .i64 a, .int .i64 m] W fun e W' => ∃ v, e = .returned (.tuple #[v, .int .i64 0]) ∧ Hid (FreshB W.heap.size W' ((bs.drop a).take m) v) ∧ Below W.heap.size W W' := by
  obtain ⟨lo, hlo⟩ : ∃ lo, min a n = lo := ⟨_, rfl⟩
  obtain ⟨k, hk⟩ : ∃ k, min m (n - lo) = k := ⟨_, rfl⟩
  have h1 : decide ((a : Int) < 0) = false := decide_eq_false (by omega)
  have h2 : decide ((m : Int) < 0) = false := decide_eq_false (by omega)
  have h3 : min (a : Int) (n : Int) = (lo : Int) := by omega
  have h5 : min (m : Int) ((n - lo : Nat) : Int) = (k : Int) := by omega
  have hle : lo ≤ n := by omega
  have hkl : k ≤ n - lo := by omega
  have HF := Lib.hid (fun b W => fileFits_any n hn b W)
  have HB : Hid ((bs.drop a).take m = (bs.drop lo).take k) := by
    rw [Hid, ← hk, ← hlo]
    by_cases hx : a ≤ n
    · rw [Nat.min_eq_left hx, ← hl, ← List.length_drop]
      exact (List.take_eq_take_min ..)
    · rw [show bs.drop a = [] from List.drop_eq_nil_of_le (by omega), show bs.drop (min a n) = [] from List.drop_eq_nil_of_le (by omega)]
      simp
  have HR := Lib.hid h
  have HCL := Lib.hid (fun bs off n c w hl hn h => cloneFresh bs b off n c w hl hn h)
  have HKL : Hid (((bs.drop lo).take k).length = k) := by rw [Hid, List.length_take, List.length_drop]; omega
  clear h hlo hk
  go_enter Tryz.func133, Tryz.ntmps133
  by_cases hc : c = lo
  · obtain rfl : c = lo := hc
    obtain rfl : c = n := by omega
    obtain rfl : k = 0 := by omega
    have h6 : min (m : Int) 0 = 0 := by omega
    clear h5
    go_wp2_with (first
      | (go_at_call 156; refine (HF.out _ _ (by simp) (by simp)).mono ?_; rintro e w2 ⟨rfl, hb2⟩)
      | (go_at_call 83; refine (HCL.out ((bs.drop c).take 0) _ _ _ _ HKL.out (by omega) (by rw [List.take_zero]; exact RowAt.nil)).mono ?_; rintro e w3 ⟨v, rfl, hv, hb3⟩))
    go_ret2
    rw [HB.out]
    have hs2 := hb2.size
    simp only [World.alloc, Array.size_push] at hs2
    obtain ⟨A, n', c', e1, e2, e3, e4, e5, e6⟩ := hv
    exact ⟨v, rfl, ⟨A, n', c', e1, e2, e3, e4, e5, fun ad e => by have := e6 ad e; omega⟩, (((Below.refl _ _).alloc (Nat.le_refl _) _).trans (hb2.mono (by simp))).trans (hb3.mono (by omega))⟩
  · have hc2 : (c == lo) = false := by rw [beq_eq_false_iff_ne]; exact hc
    go_wp2_with (first
      | (go_at_call 156; refine (HF.out _ _ (by simp) (by simp)).mono ?_; rintro e w2 ⟨rfl, hb2⟩; have HR2 : Hid (RowAt w2 (some ⟨b, off + lo, none⟩) (((bs.drop lo).take k).map encB)) := (by
          rw [Hid, List.map_take, List.map_drop]
          exact ((((HR.out.alloc _).below hb2).drop lo).take k)))
      | (go_at_call 83; refine (HCL.out ((bs.drop lo).take k) _ _ _ _ HKL.out (by omega) HR2.out).mono ?_; rintro e w3 ⟨v, rfl, hv, hb3⟩))
    go_ret2
    rw [HB.out]
    have hs2 := hb2.size
    simp only [World.alloc, Array.size_push] at hs2
    obtain ⟨A, n', c', e1, e2, e3, e4, e5, e6⟩ := hv
    exact ⟨v, rfl, ⟨A, n', c', e1, e2, e3, e4, e5, fun ad e => by have := e6 ad e; omega⟩, (((Below.refl _ _).alloc (Nat.le_refl _) _).trans (hb2.mono (by simp))).trans (hb3.mono (by omega))⟩
set_option maxRecDepth 100000 in
theorem fileRead_nil (a m : Nat) (W : World) (ha : a < 9223372036854775808) (hm : m < 9223372036854775808) :
    Calls Tryz.prog 133 #[.slice none 0 0, .int .i64 a, .int .i64 m] W fun e W' => ∃ v, e = .returned (.tuple #[v, .int .i64 0]) ∧ Hid (FreshB W.heap.size W' [] v) ∧ Below W.heap.size W W' := by
  have h1 : decide ((a : Int) < 0) = false := decide_eq_false (by omega)
  have h2 : decide ((m : Int) < 0) = false := decide_eq_false (by omega)
  have h3 : min (a : Int) 0 = 0 := by omega
  have h5 : min (m : Int) 0 = 0 := by omega
  have HF := Lib.hid (fun b W h0 h1 => fileFits_any 0 (by omega) b W h0 h1)
  have HCL := Lib.hid (fun W => cloneNil W 0)
  go_enter Tryz.func133, Tryz.ntmps133
  go_wp2_with (first
    | (go_at_call 156; refine (HF.out _ _ (by simp) (by simp)).mono ?_; rintro e w2 ⟨rfl, hb2⟩)
    | (go_at_call 83; refine (HCL.out _).mono ?_; rintro e w3 ⟨v, rfl, hv, hb3⟩))
  go_ret2
  have hs2 := hb2.size
  simp only [World.alloc, Array.size_push] at hs2
  obtain ⟨A, n', c', e1, e2, e3, e4, e5, e6⟩ := hv
  exact ⟨v, rfl, ⟨A, n', c', e1, e2, e3, e4, e5, fun ad e => by have := e6 ad e; omega⟩, (((Below.refl _ _).alloc (Nat.le_refl _) _).trans (hb2.mono (by simp))).trans (hb3.mono (by omega))⟩
/-- A result's cells. -/
def cellsO' (a b c d : Int) (NA : Option Addr) (nn nc : Nat) (BA : Option Addr) (bn bc : Nat) : Nat → Value
  | 0 => .int .i64 a
  | 1 => .int .i64 b
  | 2 => .int .i64 c
  | 3 => .int .i64 d
  | 4 => .slice NA nn nc
  | _ => .slice BA bn bc
/-- A result as a value. -/
def resV (a b c d : Int) (NA : Option Addr) (nn nc : Nat) (BA : Option Addr) (bn bc : Nat) : Value := .agg #[.int .i64 a, .int .i64 b, .int .i64 c, .int .i64 d, .slice NA nn nc, .slice BA bn bc]
end
end Go.Proofs.YtibpagmpdgflmaaGreatDoor

namespace Go.Proofs.YtibpagmpdgflmaaGreatDoor
open Go.RowKit
attribute [local go_sem] Oper.semAt_some

theorem flat_len {α β : Type} (f : α → List β) (q : Nat) (hf : ∀ x, (f x).length = q) : ∀ xs : List α, (xs.flatMap f).length = xs.length * q
  | [] => by simp
  | x :: xs => by rw [List.flatMap_cons, List.length_append, hf, flat_len f q hf xs, List.length_cons, Nat.succ_mul]; omega
theorem flat_get {α β : Type} (f : α → List β) (q : Nat) (hf : ∀ x, (f x).length = q) : ∀ (xs : List α) (k i : Nat) (hk : k < xs.length), i < q → (xs.flatMap f)[k * q + i]? = (f xs[k])[i]?
  | [], k, i, hk, _ => by simp at hk
  | x :: xs, 0, i, _, hi => by
    rw [List.flatMap_cons, Nat.zero_mul, Nat.zero_add, List.getElem?_append_left (by rw [hf]; exact hi)]; rfl
  | x :: xs, k + 1, i, hk, hi => by
    have hk' : k < xs.length := by simpa using hk
    rw [List.flatMap_cons, List.getElem?_append_right (by rw [hf, Nat.succ_mul]; omega), hf, show (k + 1) * q + i - q = k * q + i by rw [Nat.succ_mul]; omega, flat_get f q hf xs k i hk' hi]; rfl
/-- The cell of a struct in a row. -/
theorem row_cell {α : Type} {f : α → List Value} {q : Nat} (hf : ∀ x, (f x).length = q) {W : World} {b off : Nat} {xs : List α} (h : ∀ (k : Nat) (u : Value), (xs.flatMap f)[k]? = some u → W.cell? ⟨b, off + k, none⟩ = some u) {k i : Nat} {v : Value} (hk : k < xs.length) (hv : (f xs[k])[i]? = some v) :
    W.cell? ⟨b, off + k * q + i, none⟩ = some v := by
  have hi : i < q := by
    rw [← hf xs[k]]
    exact (List.getElem?_eq_some_iff.1 hv).1
  rw [Nat.add_assoc]
  exact h _ _ ((flat_get f q hf xs k i hk hi).trans hv)

/-- An operation that lies in a row. -/
structure OpP where
  k : Int
  p : ByteArray
  d : ByteArray
  a : Int
  n : Int
  A : Option Addr
  m : Nat
  c : Nat
  bs : List UInt8
namespace OpP
def cells (x : OpP) : List Value := [.int .i64 x.k, .string x.p, .string x.d, .int .i64 x.a, .int .i64 x.n, .slice x.A x.m x.c]
theorem cells_len (x : OpP) : x.cells.length = 6 := rfl
/-- What a law opens. -/
structure Okay (W : World) (x : OpP) : Prop where
  k64 : -9223372036854775808 ≤ x.k ∧ x.k < 9223372036854775808
  a64 : -9223372036854775808 ≤ x.a ∧ x.a < 9223372036854775808
  n64 : -9223372036854775808 ≤ x.n ∧ x.n < 9223372036854775808
  len : x.bs.length = x.m
  cap : x.m ≤ x.c
  big : x.c ≤ maxLen
  row : RowAt W x.A (x.bs.map encB)
def small (x : OpP) : Bool := decide (x.p.size ≤ 200 ∧ x.d.size ≤ 200 ∧ x.m ≤ 500)
end OpP
def fewB (xs : List OpP) (most : Int) : Bool := xs.all OpP.small && decide ((xs.length : Int) ≤ most)
set_option maxRecDepth 100000 in
set_option maxHeartbeats 2000000 in
theorem few11_any (xs : List OpP) (A : Option Addr) (n c : Nat) (most : Int) (W : World) (hl : xs.length = n) (hm : n ≤ maxLen) (h : RowAt W A (xs.flatMap OpP.cells)) :
    Calls Tryz.prog 13 #[.slice A n c, .int .i64 most] W fun e W' => e = .returned (.bool (fewB xs most)) ∧ W' = W := by
  unfold maxLen at hm
  have HL := Lib.hid hl
  have hA : n = 0 ∨ ∃ b off, A = some ⟨b, off, none⟩ ∧ Hid (∀ (k : Nat) (u : Value), (xs.flatMap OpP.cells)[k]? = some u → W.cell? ⟨b, off + k, none⟩ = some u) := by
    by_cases h0 : n = 0
    · exact .inl h0
    · obtain ⟨b, off, e, _, hc⟩ := h (by
        cases xs with
        | nil => simp at hl; omega
        | cons x xs => simp [OpP.cells])
      exact .inr ⟨b, off, e, hc⟩
  clear h hl
  have HEND : ∀ z, z = fewB xs most → Hid (Ending.returned (.bool z) = .returned (.bool (fewB xs most))) := fun z e => by rw [e]; rfl
  rcases hA with rfl | ⟨b, off, rfl, HC⟩
  · have HF : Hid (fewB xs most = decide ((0 : Int) ≤ most)) := by
      rw [Hid]
      have : xs = [] := List.eq_nil_of_length_eq_zero HL.out
      rw [this]; rfl
    rw [HF.out]
    clear HEND
    go_enter Tryz.func13, Tryz.ntmps13
    go_wp2
    go_loop [5] (fun i => i = .int .i64 (0 : Nat)) (fun i => 0)
    case atStart => exact rfl
    case round =>
      obtain rfl := hrel
      go_wp2
      go_ret
      exact ⟨rfl, rfl⟩
  · go_enter Tryz.func13, Tryz.ntmps13
    go_wp2
    go_loop [5] (fun i => ∃ k : Nat, k ≤ n ∧ i = .int .i64 k ∧ Hid (∀ x ∈ xs.take k, OpP.small x = true)) (fun i => n - (intOf i).toNat)
    case atStart => exact ⟨0, Nat.zero_le _, rfl, fun x hx => by simp at hx⟩
    case round =>
      obtain ⟨k, hk, rfl, HS⟩ := hrel
      by_cases hlt : k < n
      · have hkl : k < xs.length := by rw [HL.out]; exact hlt
        have c1 : W.cell? ⟨b, off + k * 6 + 1, none⟩ = some (.string xs[k].p) := row_cell OpP.cells_len HC.out hkl rfl
        have c2 : W.cell? ⟨b, off + k * 6 + 2, none⟩ = some (.string xs[k].d) := row_cell OpP.cells_len HC.out hkl rfl
        have c5 : W.cell? ⟨b, off + k * 6 + 5, none⟩ = some (.slice xs[k].A xs[k].m xs[k].c) := row_cell OpP.cells_len HC.out hkl rfl
        have HX : Hid (xs.take (k + 1) = xs.take k ++ [xs[k]]) := List.take_succ_eq_append_getElem hkl
        have HM : Hid (xs[k] ∈ xs) := List.getElem_mem hkl
        clear HC
        generalize xs[k] = x at *
        by_cases h1 : x.p.size ≤ 200
        · by_cases h2 : x.d.size ≤ 200
          · by_cases h3 : x.m ≤ 500
            · have q1 : decide ((200 : Int) < (x.p.size : Int)) = false := decide_eq_false (by omega)
              have q2 : decide ((200 : Int) < (x.d.size : Int)) = false := decide_eq_false (by omega)
              have q3 : decide ((500 : Int) < (x.m : Int)) = false := decide_eq_false (by omega)
              have HXS : Hid (x.small = true) := decide_eq_true ⟨h1, h2, h3⟩
              clear h1 h2 h3 HEND
              go_wp2
              go_round
              case rel => exact ⟨k + 1, by omega, by go_num, fun y hy => by
                rw [HX.out] at hy
                rcases List.mem_append.1 hy with hy | hy
                · exact HS.out y hy
                · rw [List.mem_singleton.1 hy]; exact HXS.out⟩
              case measure => simp [intOf]; omega
            · have q1 : decide ((200 : Int) < (x.p.size : Int)) = false := decide_eq_false (by omega)
              have q2 : decide ((200 : Int) < (x.d.size : Int)) = false := decide_eq_false (by omega)
              have q3 : decide ((500 : Int) < (x.m : Int)) = true := decide_eq_true (by omega)
              have HF : Hid (fewB xs most = false) := by
                rw [Hid, fewB, Bool.and_eq_false_iff]
                exact .inl (List.all_eq_false.2 ⟨x, HM.out, by simp [OpP.small, h1, h2, h3]⟩)
              clear h1 h2 h3 HEND
              go_wp2
              go_ret
              exact ⟨by rw [HF.out]; rfl, rfl⟩
          · have q1 : decide ((200 : Int) < (x.p.size : Int)) = false := decide_eq_false (by omega)
            have q2 : decide ((200 : Int) < (x.d.size : Int)) = true := decide_eq_true (by omega)
            have HF : Hid (fewB xs most = false) := by
              rw [Hid, fewB, Bool.and_eq_false_iff]
              exact .inl (List.all_eq_false.2 ⟨x, HM.out, by simp [OpP.small, h2]⟩)
            clear h1 h2 HEND
            go_wp2
            go_ret
            exact ⟨by rw [HF.out]; rfl, rfl⟩
        · have q1 : decide ((200 : Int) < (x.p.size : Int)) = true := decide_eq_true (by omega)
          have HF : Hid (fewB xs most = false) := by
            rw [Hid, fewB, Bool.and_eq_false_iff]
            exact .inl (List.all_eq_false.2 ⟨x, HM.out, by simp [OpP.small, h1]⟩)
          clear h1 HEND
          go_wp2
          go_ret
          exact ⟨by rw [HF.out]; rfl, rfl⟩
      · have HF : Hid (fewB xs most = decide ((n : Int) ≤ most)) := by
          rw [Hid, fewB, HL.out]
          have : xs.all OpP.small = true := List.all_eq_true.2 fun x hx => HS.out x (by rw [List.take_of_length_le (by rw [HL.out]; omega)]; exact hx)
          rw [this, Bool.true_and]
        clear HEND
        go_wp2
        go_ret
        exact ⟨by rw [HF.out]; rfl, rfl⟩
end Go.Proofs.YtibpagmpdgflmaaGreatDoor
