/- Plain: where a name goes among names in order. No program in sight. Conditions: none. -/
import Derived.Test.YtgkmcooahjoagaaPB
namespace Go.Proofs.Ytgkmcooahjoagaa
open Go.RowKit

theorem ins_has {x : List UInt8} : ∀ {p q : List (List UInt8)}, (∀ y ∈ p, ¬ Lib.compareBytes x y < 0) → x ∈ p → insL x (p ++ q) = p ++ q
  | [], _, _, h => by cases h
  | y :: p, q, hp, h => by
    show insL x (y :: (p ++ q)) = y :: (p ++ q)
    rw [insL, if_neg (hp y (List.mem_cons_self ..))]
    by_cases e : x = y
    · rw [if_pos e]
    · rw [if_neg e, ins_has (fun z hz => hp z (List.mem_cons_of_mem _ hz)) ((List.mem_cons.1 h).resolve_left e)]
theorem ins_not {x : List UInt8} : ∀ {p q : List (List UInt8)}, (∀ y ∈ p, ¬ Lib.compareBytes x y < 0) → x ∉ p → insL x (p ++ q) = p ++ insL x q
  | [], _, _, _ => rfl
  | y :: p, q, hp, h => by
    show insL x (y :: (p ++ q)) = y :: (p ++ insL x q)
    rw [insL, if_neg (hp y (List.mem_cons_self ..)), if_neg (fun (e : x = y) => h (by rw [e]; exact List.mem_cons_self ..)), ins_not (fun z hz => hp z (List.mem_cons_of_mem _ hz)) (fun hz => h (List.mem_cons_of_mem _ hz))]
theorem ins_here {x : List UInt8} : ∀ {q : List (List UInt8)}, (∀ y, q.head? = some y → Lib.compareBytes x y < 0) → insL x q = x :: q
  | [], _ => rfl
  | y :: q, h => by rw [insL, if_pos (h y rfl)]
/-- What it comes to, at the first place k whose name is greater. -/
theorem ins_at {x : List UInt8} {o : List (List UInt8)} {k : Nat} (hp : ∀ y ∈ o.take k, ¬ Lib.compareBytes x y < 0) (hq : ∀ y, o[k]? = some y → Lib.compareBytes x y < 0) (h : x ∉ o.take k) : insL x o = o.take k ++ [x] ++ o.drop k := by
  have e : o.take k ++ o.drop k = o := List.take_append_drop k o
  have h2 := ins_not (q := o.drop k) hp h
  rw [e] at h2
  rw [h2, ins_here (fun y hy => hq y (by rw [← hy, List.head?_drop])), List.append_assoc]; rfl
theorem ins_in {x : List UInt8} {o : List (List UInt8)} {k : Nat} (hp : ∀ y ∈ o.take k, ¬ Lib.compareBytes x y < 0) (h : x ∈ o.take k) : insL x o = o := by
  have h2 := ins_has (q := o.drop k) hp h
  rwa [List.take_append_drop] at h2
theorem sortL_snoc (xs : List (List UInt8)) (x : List UInt8) : sortL (xs ++ [x]) = insL x (sortL xs) := by rw [sortL, List.foldl_append]; rfl
theorem sortL_take {xs : List (List UInt8)} {j : Nat} (h : j < xs.length) : sortL (xs.take (j + 1)) = insL xs[j] (sortL (xs.take j)) := by rw [List.take_succ_eq_append_getElem h, sortL_snoc]
theorem take_more {o : List (List UInt8)} {k : Nat} (h : k < o.length) : o.take (k + 1) = o.take k ++ [o[k]] := List.take_succ_eq_append_getElem h
end Go.Proofs.Ytgkmcooahjoagaa
