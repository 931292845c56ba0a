/- The contracts of the document's answers for names as words: Words. Conditions: none. -/
import Derived.Test.YtibpagmpdgflmaaGreatDoorZV2
import Derived.Test.YtibpagmpdgflmaaGreatDoorA1
import Derived.Lib.ConvBytes
namespace Go.Proofs.YtibpagmpdgflmaaGreatDoor
open Go.RowKit

/-- A name's words. -/
def words5 (bs : List UInt8) : List Nat := (List.range 5).map (wordAt bs)
def encF (f : Nat → Nat) : Value := .agg #[.int .u64 (f 0 : Nat), .int .u64 (f 1 : Nat), .int .u64 (f 2 : Nat), .int .u64 (f 3 : Nat), .int .u64 (f 4 : Nat)]
theorem encF_congr {f g : Nat → Nat} (h : ∀ k, k < 5 → f k = g k) : encF f = encF g := by
  unfold encF
  rw [h 0 (by omega), h 1 (by omega), h 2 (by omega), h 3 (by omega), h 4 (by omega)]

/-- An array of five words in a block. -/
def Arr5 (w : World) (B : Nat) (f : Nat → Nat) : Prop := (∀ k, k < 5 → w.cell? ⟨B, k, none⟩ = some (.int .u64 (f k : Nat))) ∧ ∀ k, w.frozen? ⟨B, k, none⟩ = false
def firstW (a : Nat → Nat) (i k : Nat) : Nat := if k < i then a k else 0
theorem Arr5.step {w : World} {B : Nat} {a : Nat → Nat} {i : Nat} (h : Arr5 w B (firstW a i)) (hi : i < 5) : Arr5 (w.setCell ⟨B, i, none⟩ (.int .u64 (a i : Nat))) B (firstW a (i + 1)) := by
  refine ⟨fun k hk => ?_, fun k => by simpa using h.2 k⟩
  by_cases e : k = i
  · subst e
    rw [World.cell?_setCell_same' _ _ _ (by rw [h.1 k hk]; rfl), firstW, if_pos (by omega)]
  · rw [World.cell?_setCell_other _ _ _ _ (by intro e'; injection e' with _ e'; omega), h.1 k hk, firstW, firstW]
    congr 3
    by_cases h1 : k < i
    · rw [if_pos h1, if_pos (by omega)]
    · rw [if_neg h1, if_neg (by omega)]
theorem Arr5.put {w : World} {B : Nat} {g : Nat → Nat} (h : Arr5 w B g) (i x : Nat) (hi : i < 5) : Arr5 (w.setCell ⟨B, i, none⟩ (.int .u64 (x : Nat))) B (fun k => if k = i then x else g k) := by
  refine ⟨fun k hk => ?_, fun k => by simpa using h.2 k⟩
  by_cases e : k = i
  · subst e
    rw [World.cell?_setCell_same' _ _ _ (by rw [h.1 k hk]; rfl)]
    simp
  · rw [World.cell?_setCell_other _ _ _ _ (by intro e'; injection e' with _ e'; omega), h.1 k hk]
    simp [e]
theorem Arr5.all {w : World} {B : Nat} {g : Nat → Nat} (h : Arr5 w B g) (f : Nat → Nat) :
    Arr5 (((((w.setCell ⟨B, 0, none⟩ (.int .u64 (f 0 : Nat))).setCell ⟨B, 1, none⟩ (.int .u64 (f 1 : Nat))).setCell ⟨B, 2, none⟩ (.int .u64 (f 2 : Nat))).setCell ⟨B, 3, none⟩ (.int .u64 (f 3 : Nat))).setCell ⟨B, 4, none⟩ (.int .u64 (f 4 : Nat))) B f := by
  have h5 := ((((h.put 0 (f 0) (by omega)).put 1 (f 1) (by omega)).put 2 (f 2) (by omega)).put 3 (f 3) (by omega)).put 4 (f 4) (by omega)
  refine ⟨fun k hk => ?_, h5.2⟩
  rw [h5.1 k hk]
  match k, hk with
  | 0, _ => rfl
  | 1, _ => rfl
  | 2, _ => rfl
  | 3, _ => rfl
  | 4, _ => rfl
theorem below_five {w0 w : World} {n B : Nat} (h : Below n w0 w) (hB : n ≤ B) (f : Nat → Nat) :
    Below n w0 (((((w.setCell ⟨B, 0, none⟩ (.int .u64 (f 0 : Nat))).setCell ⟨B, 1, none⟩ (.int .u64 (f 1 : Nat))).setCell ⟨B, 2, none⟩ (.int .u64 (f 2 : Nat))).setCell ⟨B, 3, none⟩ (.int .u64 (f 3 : Nat))).setCell ⟨B, 4, none⟩ (.int .u64 (f 4 : Nat))) :=
  ((((h.setCell (p := ⟨B, 0, none⟩) hB _).setCell (p := ⟨B, 1, none⟩) hB _).setCell (p := ⟨B, 2, none⟩) hB _).setCell (p := ⟨B, 3, none⟩) hB _).setCell (p := ⟨B, 4, none⟩) hB _
theorem Arr5.five {w : World} {B : Nat} {f : Nat → Nat} (h : Arr5 w B f) : (w.cell? ⟨B, 0, none⟩ = some (.int .u64 (f 0 : Nat)) ∧ w.cell? ⟨B, 1, none⟩ = some (.int .u64 (f 1 : Nat)) ∧ w.cell? ⟨B, 2, none⟩ = some (.int .u64 (f 2 : Nat)) ∧ w.cell? ⟨B, 3, none⟩ = some (.int .u64 (f 3 : Nat)) ∧ w.cell? ⟨B, 4, none⟩ = some (.int .u64 (f 4 : Nat))) :=
  ⟨h.1 0 (by omega), h.1 1 (by omega), h.1 2 (by omega), h.1 3 (by omega), h.1 4 (by omega)⟩
theorem Arr5.below {w w' : World} {B : Nat} {f : Nat → Nat} {n : Nat} (h : Arr5 w B f) (hb : Below n w w') (hB : B < n) : Arr5 w' B f :=
  ⟨fun k hk => (hb.cell (p := ⟨B, k, none⟩) hB).trans (h.1 k hk), fun k => (hb.frozen (p := ⟨B, k, none⟩) hB).trans (h.2 k)⟩

theorem below_bytes (w : World) (e : TypeId) (s : ByteArray) : Below w.heap.size w (Lib.bytesWorld w e s) :=
  ⟨rfl, rfl, rfl, by rw [Lib.bytesWorld_size]; omega, fun k hk => Lib.bytesWorld_at_old w e s k hk⟩
theorem row_bytes (w : World) (e : TypeId) (s : ByteArray) : RowAt (Lib.bytesWorld w e s) (some ⟨w.heap.size, 0, none⟩) ((bytesOf s).map encB) := fun _ =>
  ⟨_, _, rfl, by rw [Lib.bytesWorld_size]; omega, fun k u hu => by
    have hk : k < s.size := by
      have := (List.getElem?_eq_some_iff.1 hu).1
      rw [List.length_map, size_bytesOf] at this; exact this
    rw [Nat.zero_add, Lib.bytesWorld_cell w e s k hk]
    rw [List.getElem?_map, List.getElem?_eq_getElem (by rw [size_bytesOf]; exact hk)] at hu
    rw [← Option.some.inj hu]
    have : s.data.toList.getD k 0 = (bytesOf s)[k]'(by rw [size_bytesOf]; exact hk) := by
      rw [List.getD_eq_getElem?_getD]
      show ((bytesOf s)[k]?).getD 0 = _
      rw [List.getElem?_eq_getElem (by rw [size_bytesOf]; exact hk)]; rfl
    rw [this]; rfl⟩
theorem Tryz.underlyingBytes : Tryz.prog.underlying 25 = some (.slice 5) := by kernel_rfl
theorem Tryz.underlyingByte : Tryz.prog.underlying 5 = some (.int .u8) := by kernel_rfl
theorem Tryz.underlyingStr : Tryz.prog.underlying 9 = some .string := by kernel_rfl

end Go.Proofs.YtibpagmpdgflmaaGreatDoor
