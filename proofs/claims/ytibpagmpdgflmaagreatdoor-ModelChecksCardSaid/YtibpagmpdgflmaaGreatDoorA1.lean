/- Contracts of the leaf functions of the document's answers for names and lists of texts. Conditions: none. -/
import Derived.Test.YtibpagmpdgflmaaGreatDoorProg
import Derived.WalkKit
import Derived.WalkSpells
import Derived.WalkLawsBesides
namespace Go.Proofs.YtibpagmpdgflmaaGreatDoor
open Go.RowKit

/-- A letter that may stand in a name. -/
def okByte (c : UInt8) : Bool := decide (33 ≤ c.toNat) && decide (c.toNat ≤ 126) && !(decide (c.toNat = 47))
/-- May a name be? -/
def rightB (l : List UInt8) : Bool := decide (1 ≤ l.length) && decide (l.length ≤ 40) && !(l == [46]) && !(l == [46, 46]) && l.all okByte

theorem okByte_iff (c : UInt8) : okByte c = true ↔ 33 ≤ c.toNat ∧ c.toNat ≤ 126 ∧ c.toNat ≠ 47 := by
  simp [okByte, and_assoc]

theorem hid {p : Prop} (h : p) : Hid p := h
theorem ret_bool {a b : Bool} (h : a = b) : Ending.returned (.bool a) = .returned (.bool b) := by rw [h]
theorem ret_int {k : IntKind} {a b : Int} (h : a = b) : Ending.returned (.int k a) = .returned (.int k b) := by rw [h]

theorem okByte_of {c : UInt8} (h1 : 33 ≤ (c.toNat : Int)) (h2 : (c.toNat : Int) ≤ 126) (h3 : ((c.toNat : Int) == 47) = false) : okByte c = true := by
  rw [okByte_iff]; simp at h3; omega
theorem okByte_no {c : UInt8} (h : (c.toNat : Int) < 33 ∨ 126 < (c.toNat : Int) ∨ ((c.toNat : Int) == 47) = true) : okByte c = false := by
  rw [Bool.eq_false_iff]; intro hc; rw [okByte_iff] at hc; simp at h; omega
theorem take_snoc (s : ByteArray) (k : Nat) (h : k < s.size) : s.data.toList.take (k + 1) = s.data.toList.take k ++ [s[k]] := by
  rw [List.take_succ_eq_append_getElem (by simpa using h)]; rfl
theorem all_snoc (s : ByteArray) (p : UInt8 → Bool) (k : Nat) (h : k < s.size) (ha : (s.data.toList.take k).all p = true) (hp : p s[k] = true) : (s.data.toList.take (k + 1)).all p = true := by
  rw [take_snoc s k h, List.all_append, ha]; simp [hp]
theorem all_bad (s : ByteArray) (p : UInt8 → Bool) (k : Nat) (h : k < s.size) (hp : p s[k] = false) : s.data.toList.all p = false := by
  rw [Bool.eq_false_iff]; intro ha
  have := List.all_eq_true.1 ha s[k] (by show s.data[k] ∈ s.data.toList; exact Array.mem_toList_iff.2 (Array.getElem_mem h))
  rw [hp] at this; cases this

set_option maxHeartbeats 400000 in
theorem refRight_any (s : ByteArray) (w : World) (hs : s.size ≤ maxLen) :
    Calls Tryz.prog 56 #[.string s] w fun e w' => e = .returned (.bool (rightB s.data.toList)) ∧ w = w' := by
  unfold maxLen at hs
  have hl : s.data.toList.length = s.size := rfl
  by_cases h1 : 1 ≤ s.size
  · by_cases h2 : s.size ≤ 40
    · by_cases h3 : s.data.toList = [46]
      · have HF : Hid (rightB s.data.toList = false) := by simp [Hid, rightB, h3]
        rw [← ByteArray.toList_eq] at h3
        clear hl
        go_enter Tryz.func56, Tryz.ntmps56
        go_wp2
        go_ret
        exact ⟨ret_bool HF.out.symm, rfl⟩
      · by_cases h4 : s.data.toList = [46, 46]
        · have HF : Hid (rightB s.data.toList = false) := by simp [Hid, rightB, h4]
          rw [← ByteArray.toList_eq] at h3 h4
          clear hl
          have h3' : (s.toList == [46]) = false := by simpa using h3
          have h4' : (s.toList == [46, 46]) = true := by simpa using h4
          clear h3 h4
          go_enter Tryz.func56, Tryz.ntmps56
          go_wp2
          go_ret
          exact ⟨ret_bool HF.out.symm, rfl⟩
        · have HF : Hid (rightB s.data.toList = s.data.toList.all okByte) := by simp [Hid, rightB, h3, h4, h1, h2]
          rw [← ByteArray.toList_eq] at h3 h4
          clear hl
          have h3' : (s.toList == [46]) = false := by simpa using h3
          have h4' : (s.toList == [46, 46]) = false := by simpa using h4
          clear h3 h4
          go_enter Tryz.func56, Tryz.ntmps56
          go_wp2
          go_loop [3] (fun i => ∃ k : Nat, k ≤ s.size ∧ i = .int .i64 k ∧ ((s.data.toList.take k).all okByte = true)) (fun i => s.size - (intOf i).toNat)
          case atStart => exact ⟨0, Nat.zero_le _, rfl, rfl⟩
          case round =>
            obtain ⟨k, hk, rfl, hall⟩ := hrel
            have HA := hid hall
            clear hall
            by_cases hlt : k < s.size
            · go_wp2
              case roundEnd => exact ⟨⟨k + 1, by omega, by go_num, all_snoc s okByte k hlt HA.out (okByte_of (by omega) (by omega) (by simp_all))⟩, by simp [intOf]; omega⟩
              all_goals
                go_ret
                exact ⟨ret_bool (by rw [HF.out]; exact (all_bad s okByte k hlt (okByte_no (by first | (left; omega) | (right; left; omega) | (right; right; simp_all <;> omega)))).symm), rfl⟩
            · go_wp2
              go_ret
              exact ⟨ret_bool (by rw [HF.out, ← HA.out, List.take_of_length_le (by show s.size ≤ k; omega)]), rfl⟩
    · have HF : Hid (rightB s.data.toList = false) := by simp [Hid, rightB, hl]; omega
      clear hl
      go_enter Tryz.func56, Tryz.ntmps56
      go_wp2
      go_ret
      exact ⟨ret_bool HF.out.symm, rfl⟩
  · have HF : Hid (rightB s.data.toList = false) := by simp [Hid, rightB, hl]; omega
    clear hl
    go_enter Tryz.func56, Tryz.ntmps56
    go_wp2
    go_ret
    exact ⟨ret_bool HF.out.symm, rfl⟩
end Go.Proofs.YtibpagmpdgflmaaGreatDoor
