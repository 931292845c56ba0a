/- Plain: names put in order one by one, each once. No program in sight. Conditions: none. -/
import Derived.Test.YtgkmcooahjoagaaP8
namespace Go.Proofs.Ytgkmcooahjoagaa
open Go.RowKit

def insL (x : List UInt8) : List (List UInt8) → List (List UInt8)
  | [] => [x]
  | y :: l => if Lib.compareBytes x y < 0 then x :: y :: l else if x = y then y :: l else y :: insL x l
theorem mem_insL {x z : List UInt8} : ∀ {l : List (List UInt8)}, z ∈ insL x l ↔ z = x ∨ z ∈ l
  | [] => by simp [insL]
  | y :: l => by
    rw [insL]
    split
    · simp
    · split
      · rename_i e; subst e; simp
      · rw [List.mem_cons, mem_insL, List.mem_cons]
        constructor
        · rintro (h | h | h)
          · exact .inr (.inl h)
          · exact .inl h
          · exact .inr (.inr h)
        · rintro (h | h | h)
          · exact .inr (.inl h)
          · exact .inl h
          · exact .inr (.inr h)
theorem rising_insL {x : List UInt8} : ∀ {l : List (List UInt8)}, Rising l → Rising (insL x l)
  | [], _ => by simp [insL, Rising]
  | y :: l, h => by
    obtain ⟨h1, h2⟩ := List.pairwise_cons.1 h
    rw [insL]
    split
    · rename_i hxy
      refine List.pairwise_cons.2 ⟨fun z hz => ?_, h⟩
      rcases List.mem_cons.1 hz with rfl | hz
      · exact hxy
      · exact cmp_trans _ _ _ hxy (h1 z hz)
    · rename_i hxy
      split
      · exact h
      · rename_i hne
        refine List.pairwise_cons.2 ⟨fun z hz => ?_, rising_insL h2⟩
        rcases mem_insL.1 hz with rfl | hz
        · rcases cmp_range z y with h3 | h3 | h3
          · exact (hxy h3).elim
          · exact (hne h3).elim
          · exact h3
        · exact h1 z hz
theorem length_insL (x : List UInt8) : ∀ l : List (List UInt8), (insL x l).length ≤ l.length + 1
  | [] => by simp [insL]
  | y :: l => by
    rw [insL]
    split
    · simp
    · split
      · simp
      · have := length_insL x l
        simp; omega
def sortL (xs : List (List UInt8)) : List (List UInt8) := xs.foldl (fun acc x => insL x acc) []
theorem fold_insL : ∀ (xs acc : List (List UInt8)), Rising acc → Rising (xs.foldl (fun acc x => insL x acc) acc) ∧ (∀ z, z ∈ xs.foldl (fun acc x => insL x acc) acc ↔ z ∈ acc ∨ z ∈ xs) ∧ (xs.foldl (fun acc x => insL x acc) acc).length ≤ acc.length + xs.length
  | [], acc, h => ⟨h, by simp, by simp⟩
  | x :: xs, acc, h => by
    obtain ⟨h1, h2, h3⟩ := fold_insL xs (insL x acc) (rising_insL h)
    refine ⟨h1, fun z => ?_, ?_⟩
    · rw [List.foldl_cons, h2, mem_insL, List.mem_cons]
      constructor
      · rintro ((h | h) | h)
        · exact .inr (.inl h)
        · exact .inl h
        · exact .inr (.inr h)
      · rintro (h | h | h)
        · exact .inl (.inr h)
        · exact .inl (.inl h)
        · exact .inr h
    · have := length_insL x acc
      rw [List.foldl_cons, List.length_cons]; omega
theorem rising_sortL (xs : List (List UInt8)) : Rising (sortL xs) := (fold_insL xs [] (by simp [Rising])).1
theorem mem_sortL {xs : List (List UInt8)} {z : List UInt8} : z ∈ sortL xs ↔ z ∈ xs := by
  have := (fold_insL xs [] (by simp [Rising])).2.1 z
  rw [sortL, this]; simp
theorem length_sortL (xs : List (List UInt8)) : (sortL xs).length ≤ xs.length := by
  have := (fold_insL xs [] (by simp [Rising])).2.2
  simpa [sortL] using this
theorem sortL_is {xs ys : List (List UInt8)} (h : Rising ys) (hm : ∀ x, x ∈ ys ↔ x ∈ xs) : ys = sortL xs :=
  rising_one h (rising_sortL xs) fun x => (hm x).trans mem_sortL.symm
/-- Each list put in order ahead, or not: the same. -/
theorem sortL_join (xs ys : List (List UInt8)) : sortL (sortL xs ++ sortL ys) = sortL (xs ++ ys) :=
  sortL_is (rising_sortL _) fun x => by rw [mem_sortL, List.mem_append, List.mem_append, mem_sortL, mem_sortL]
theorem sortL_again (xs : List (List UInt8)) : sortL (sortL xs) = sortL xs :=
  (sortL_is (rising_sortL xs) fun _ => Iff.rfl).symm
theorem sortL_back (xs : List (List UInt8)) : sortL xs.reverse = sortL xs :=
  sortL_is (rising_sortL _) fun x => by rw [mem_sortL, List.mem_reverse]
theorem all_sortL {xs : List (List UInt8)} (p : List UInt8 → Bool) (h : xs.all p = true) : (sortL xs).all p = true :=
  List.all_eq_true.2 fun x hx => List.all_eq_true.1 h x (mem_sortL.1 hx)
end Go.Proofs.Ytgkmcooahjoagaa
