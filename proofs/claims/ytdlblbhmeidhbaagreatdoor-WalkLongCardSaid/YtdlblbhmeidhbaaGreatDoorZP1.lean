/- Plain laws of paths: a text is read as names, and names are told as a text. Conditions: none. -/
import Derived.Test.YtdlblbhmeidhbaaGreatDoorZC6
namespace Go.Proofs.YtdlblbhmeidhbaaGreatDoor
open Go.RowKit

theorem rightB_mem {x : List UInt8} (h : rightB x = true) : x ≠ [] ∧ (47 : UInt8) ∉ x := by
  simp only [rightB, Bool.and_eq_true, decide_eq_true_eq, List.all_eq_true, Bool.not_eq_true'] at h
  refine ⟨fun e => by rw [e] at h; simp at h, fun hm => ?_⟩
  have h47 : okByte 47 = true := by
    first
      | exact h.2 47 hm
      | exact h.1.2 47 hm
      | exact h.2.2 47 hm
  exact absurd ((okByte_iff 47).1 h47).2.2 (by decide)
theorem joinL_ne (c : UInt8) {xs : List (List UInt8)} (h : xs ≠ []) (hx : ∀ x ∈ xs, x ≠ []) : joinL c xs ≠ [] := by
  cases xs with
  | nil => exact absurd rfl h
  | cons y ys =>
    have hy := hx y (by simp)
    cases ys with
    | nil => simpa [joinL] using hy
    | cons z zs => rw [joinL_cons _ _ (by simp)]; simp

/-- Names told as a text read as those names. -/
theorem readP_textP {xs : List (List UInt8)} (h16 : xs.length ≤ 16) (hr : xs.all rightB = true) : readP (textP xs) = (0, xs) := by
  have hm : ∀ x ∈ xs, x ≠ [] ∧ (47 : UInt8) ∉ x := fun x hx => rightB_mem (List.all_eq_true.1 hr x hx)
  have hp : Lib.hasPrefix (textP xs) [47] = true := by simp [Lib.hasPrefix, textP]
  have hd : (textP xs).drop 1 = joinL 47 xs := rfl
  rw [readP, if_pos hp, hd, readR]
  by_cases hx : xs = []
  · subst hx; rfl
  · rw [if_neg (joinL_ne 47 hx (fun x h => (hm x h).1)), split_joinL 47 hx (fun y hy => (hm y hy).2), readN]
    have he : xs.any List.isEmpty = false := by
      rw [List.any_eq_false]
      intro x h
      rw [List.isEmpty_iff]; exact (hm x h).1
    rw [he, if_neg (by simp), if_neg (by omega), if_pos hr]
/-- A text that reads as names is what they are told as. -/
theorem textP_readP {s : List UInt8} (h : (readP s).1 = 0) : textP (readP s).2 = s := by
  unfold readP at h ⊢
  by_cases hp : Lib.hasPrefix s [47] = true
  · rw [if_pos hp] at h ⊢
    have hs : s = 47 :: s.drop 1 := by
      cases s with
      | nil => simp [Lib.hasPrefix] at hp
      | cons x xs =>
        have : x = 47 := by
          have h' := hp
          simp [Lib.hasPrefix] at h'
          first
            | exact h'
            | exact h'.symm
        rw [this]; rfl
    unfold readR at h ⊢
    by_cases h1 : s.drop 1 = []
    · rw [if_pos h1]; rw [h1] at hs; rw [hs]; rfl
    · rw [if_neg h1] at h ⊢
      rcases readN_cases (splitL 47 (s.drop 1)) with ⟨_, e2, _⟩ | ⟨e1, _⟩
      · rw [e2, textP, joinL_split]; exact hs.symm
      · rw [h] at e1; exact absurd e1 (by decide)
  · rw [if_neg hp] at h; exact absurd h (by decide)
theorem readP_fine {s : List UInt8} (h : (readP s).1 = 0) : (readP s).2.length ≤ 16 ∧ (readP s).2.all rightB = true := by
  rcases readP_cases s with ⟨_, h2, h3⟩ | ⟨e1, _⟩
  · exact ⟨h2.1, h3⟩
  · rw [h] at e1; exact absurd e1 (by decide)
theorem readP_take {s : List UInt8} (h : (readP s).1 = 0) (k : Nat) : readP (textP ((readP s).2.take k)) = (0, (readP s).2.take k) := by
  obtain ⟨h1, h2⟩ := readP_fine h
  refine readP_textP (by rw [List.length_take]; omega) ?_
  rw [List.all_eq_true] at h2 ⊢
  exact fun x hx => h2 x (List.mem_of_mem_take hx)

theorem parentP_ok {s : List UInt8} (h : (parentP s).2.2 = 0) : (readP s).1 = 0 ∧ (readP s).2 ≠ [] ∧ (parentP s).1 = textP ((readP s).2.take ((readP s).2.length - 1)) ∧ (parentP s).2.1 = lastN (readP s).2 := by
  unfold parentP at h ⊢
  by_cases h1 : (readP s).1 ≠ 0
  · rw [if_pos h1] at h; exact absurd h h1
  · rw [if_neg h1] at h ⊢
    by_cases h2 : (readP s).2 = []
    · rw [if_pos h2] at h; exact absurd h (by decide)
    · rw [if_neg h2]; exact ⟨by omega, h2, rfl, rfl⟩
theorem names_last {l : List (List UInt8)} (h : l ≠ []) : l.take (l.length - 1) ++ [lastN l] = l := by
  have : l.take (l.length - 1) = l.dropLast := by rw [List.dropLast_eq_take]
  rw [this, lastN, List.getLastD_eq_getLast?, List.getLast?_eq_some_getLast h]
  exact List.dropLast_concat_getLast h

theorem withinN_iff {a b : List (List UInt8)} : withinN a b = true ↔ b.length < a.length ∧ a.take b.length = b := by
  simp [withinN]
theorem withinN_antisymm {a b : List (List UInt8)} (h : withinN a b = true) : withinN b a = false := by
  rw [withinN_iff] at h
  rw [Bool.eq_false_iff]; intro h2; rw [withinN_iff] at h2; omega
theorem withinN_trans {a b c : List (List UInt8)} (h : withinN a b = true) (k : withinN b c = true) : withinN a c = true := by
  rw [withinN_iff] at h k ⊢
  refine ⟨by omega, ?_⟩
  rw [← k.2, ← h.2, List.take_take, List.length_take]
  congr 1
  first
    | omega
    | (rw [h.2]; omega)
theorem withinN_take {a : List (List UInt8)} {k : Nat} (h : k < a.length) : withinN a (a.take k) = true := by
  rw [withinN_iff, List.length_take]
  exact ⟨by omega, by rw [Nat.min_eq_left (by omega)]⟩
theorem withinP_ok {s t : List UInt8} (h1 : (readP s).1 = 0) (h2 : (readP t).1 = 0) : withinP s t = (withinN (readP s).2 (readP t).2, 0) := by
  rw [withinP, if_neg (by omega), if_neg (by omega)]
theorem withinP_err {s t : List UInt8} : (withinP s t).2 = if (readP s).1 ≠ 0 then (readP s).1 else (readP t).1 := by
  unfold withinP
  by_cases h1 : (readP s).1 ≠ 0
  · rw [if_pos h1, if_pos h1]
  · rw [if_neg h1, if_neg h1]
    by_cases h2 : (readP t).1 ≠ 0
    · rw [if_pos h2]
    · rw [if_neg h2]; exact (Decidable.not_not.1 h2).symm

/-- Each of the beginnings is within all that follow. -/
theorem prefixes_within {s : List UInt8} (h : (readP s).1 = 0) {k : Nat} (hk : k < (readP s).2.length) :
    withinP (textP ((readP s).2.take (k + 1))) (textP ((readP s).2.take k)) = (true, 0) := by
  rw [withinP_ok (by rw [readP_take h]) (by rw [readP_take h]), readP_take h, readP_take h]
  refine Prod.ext ?_ rfl
  rw [withinN_iff, List.length_take, List.length_take, List.take_take]
  exact ⟨by omega, by congr 1; omega⟩
/-- A path is within its parent. -/
theorem within_parent {s : List UInt8} (h : (parentP s).2.2 = 0) : withinP s (parentP s).1 = (true, 0) := by
  obtain ⟨h1, h2, h3, _⟩ := parentP_ok h
  rw [h3, withinP_ok h1 (by rw [readP_take h1]), readP_take h1]
  refine Prod.ext ?_ rfl
  exact withinN_take (by have := List.length_pos_iff.2 h2; omega)
theorem split_parent {s : List UInt8} (h : (parentP s).2.2 = 0) : (readP (parentP s).1).1 = 0 ∧ (readP s).1 = 0 ∧ (readP s).2 = (readP (parentP s).1).2 ++ [(parentP s).2.1] := by
  obtain ⟨h1, h2, h3, h4⟩ := parentP_ok h
  rw [h3, readP_take h1, h4]
  exact ⟨rfl, h1, (names_last h2).symm⟩
end Go.Proofs.YtdlblbhmeidhbaaGreatDoor
