/- Contracts of the leaf functions of the document's answers for names and lists of texts. Conditions: none. -/
import Derived.Test.YtdlblbhmeidhbaaDoorProg
import Derived.WalkKit
import Derived.WalkSpells
import Derived.WalkLawsBesides
namespace Go.Proofs.YtdlblbhmeidhbaaDoor
open Go.RowKit

/-- A letter that may stand in a name. -/
def okByte (c : UInt8) : Bool := decide (33 ≤ c.toNat) && decide (c.toNat ≤ 126) && !(decide (c.toNat = 47))
/-- May a name be? -/
def rightB (l : List UInt8) : Bool := decide (1 ≤ l.length) && decide (l.length ≤ 40) && !(l == [46]) && !(l == [46, 46]) && l.all okByte

theorem okByte_iff (c : UInt8) : okByte c = true ↔ 33 ≤ c.toNat ∧ c.toNat ≤ 126 ∧ c.toNat ≠ 47 := by
  simp [okByte, and_assoc]

theorem hid {p : Prop} (h : p) : Hid p := h
theorem ret_bool {a b : Bool} (h : a = b) : Ending.returned (.bool a) = .returned (.bool b) := by rw [h]
theorem ret_int {k : IntKind} {a b : Int} (h : a = b) : Ending.returned (.int k a) = .returned (.int k b) := by rw [h]

theorem okByte_of {c : UInt8} (h1 : 33 ≤ (c.toNat : Int)) (h2 : (c.toNat : Int) ≤ 126) (h3 : ((c.toNat : Int) == 47) = false) : okByte c = true := by
  rw [okByte_iff]; simp at h3; omega
theorem okByte_no {c : UInt8} (h : (c.toNat : Int) < 33 ∨ 126 < (c.toNat : Int) ∨ ((c.toNat : Int) == 47) = true) : okByte c = false := by
  rw [Bool.eq_false_iff]; intro hc; rw [okByte_iff] at hc; simp at h; omega
theorem take_snoc (s : ByteArray) (k : Nat) (h : k < s.size) : s.data.toList.take (k + 1) = s.data.toList.take k ++ [s[k]] := by
  rw [List.take_succ_eq_append_getElem (by simpa using h)]; rfl
theorem all_snoc (s : ByteArray) (p : UInt8 → Bool) (k : Nat) (h : k < s.size) (ha : (s.data.toList.take k).all p = true) (hp : p s[k] = true) : (s.data.toList.take (k + 1)).all p = true := by
  rw [take_snoc s k h, List.all_append, ha]; simp [hp]
theorem all_bad (s : ByteArray) (p : UInt8 → Bool) (k : Nat) (h : k < s.size) (hp : p s[k] = false) : s.data.toList.all p = false := by
  rw [Bool.eq_false_iff]; intro ha
  have := List.all_eq_true.1 ha s[k] (by show s.data[k] ∈ s.data.toList; exact Array.mem_toList_iff.2 (Array.getElem_mem h))
  rw [hp] at this; cases this

end Go.Proofs.YtdlblbhmeidhbaaDoor
