/- Plain: a chain that is too long. No program in sight. Conditions: none. -/
import Derived.Test.YtdlblbhmeidhbaaGreatDoorZJ0
namespace Go.Proofs.YtdlblbhmeidhbaaGreatDoor
open Go.RowKit

/-- The words of the long chain. -/
def longF (i : Nat) : Nat := if i = 0 then 4 else if i = 1 then 258 else if i = 2 then 5 else if i = 3 then 9 else if i % 2 = 0 then 1 else 9
def longL (n : Nat) : List Nat := (List.range n).map longF
theorem longL_length (n : Nat) : (longL n).length = n := by simp [longL]
theorem longL_get {n i : Nat} (h : i < n) : (longL n)[i]? = some (longF i) := by
  unfold longL
  rw [List.getElem?_map, List.getElem?_range h]
  rfl
theorem longF_lt (i : Nat) : longF i < 18446744073709551616 := by unfold longF; repeat' split
                                                                  all_goals omega
theorem longL_lt {n : Nat} : ∀ x ∈ longL n, x < 18446744073709551616 := fun x hx => by
  obtain ⟨i, _, rfl⟩ := List.mem_map.1 hx
  exact longF_lt i
theorem longL_take {n m : Nat} (h : n ≤ m) : (longL m).take n = longL n := by
  unfold longL
  rw [← List.map_take, List.take_range, Nat.min_eq_left h]
theorem longL_two {m : Nat} (h4 : 4 ≤ m) (h2 : m % 2 = 0) : longL (m + 2) = longL m ++ [1, 9] := by
  unfold longL
  rw [show m + 2 = m + 1 + 1 from rfl, List.range_succ, List.range_succ, List.map_append, List.map_append, List.append_assoc]
  congr 1
  have e1 : longF m = 1 := by unfold longF; rw [if_neg (by omega), if_neg (by omega), if_neg (by omega), if_neg (by omega), if_pos h2]
  have e2 : longF (m + 1) = 9 := by unfold longF; rw [if_neg (by omega), if_neg (by omega), if_neg (by omega), if_neg (by omega), if_neg (by omega)]
  simp [e1, e2]
theorem loadP_long {n p : Nat} {ats : List Nat} (h : ats.length < n) : loadP (longL n) p ats = .val (longF ats.length) (ats ++ [p]) := by
  unfold loadP
  rw [longL_get h]
theorem chain_long {n : Nat} (s : List UInt8) (hs : s.length ≠ 1) : ∀ (fuel : Nat) (ats : List Nat), ats.length % 2 = 0 → 4 ≤ ats.length → ats.length + 2 * fuel ≤ n → ∃ l, chainP (longL n) s fuel 9 ats = .stop (.err 300) l
  | 0, ats, _, _, _ => ⟨ats, by unfold chainP; rw [if_neg (by omega)]⟩
  | fuel + 1, ats, h2, h4, hn => by
    unfold chainP fitsP
    rw [if_neg (by omega), loadP_long (by omega)]
    have e1 : longF ats.length = 1 := by unfold longF; rw [if_neg (by omega), if_neg (by omega), if_neg (by omega), if_neg (by omega), if_pos h2]
    rw [e1]
    show ∃ l, ((if (1 : Nat) = s.length then _ else Res.val false (ats ++ [9 * 8 + 2])) : Res Bool).bind _ = _
    rw [if_neg (fun e => hs e.symm)]
    show ∃ l, ((loadP (longL n) (9 * 8 + 0) (ats ++ [9 * 8 + 2])).bind fun x ats => (pointerP x ats).bind fun next ats => chainP (longL n) s fuel next ats) = _
    rw [loadP_long (by rw [List.length_append]; simp; omega)]
    have e2 : longF (ats ++ [9 * 8 + 2]).length = 9 := by
      rw [List.length_append, show [9 * 8 + 2].length = 1 from rfl]
      unfold longF
      rw [if_neg (by omega), if_neg (by omega), if_neg (by omega), if_neg (by omega), if_neg (by omega)]
    rw [e2]
    exact chain_long s hs fuel ((ats ++ [9 * 8 + 2]) ++ [9 * 8 + 0]) (by simp; omega) (by simp; omega) (by simp; omega)
theorem walked_long {n : Nat} (s : List UInt8) (hs : s.length ≠ 1) (hn : 2052 ≤ n) : ∃ l, walkedP (longL n) [s] = .stop (.err 300) l := by
  unfold walkedP
  rw [loadP_long (by simp; omega)]
  show ∃ l, ((enterP (longL n) 4 [1]).bind fun n' ats => walkL (longL n) [s] 4 n' ats) = _
  unfold enterP
  rw [loadP_long (by simp; omega)]
  show ∃ l, (((loadP (longL n) (4 * 8 + 1) [1, 4 * 8 + 0]).bind fun t ats => match nodeP 258 t with | some n => Res.val n ats | none => .stop (.err 300) ats).bind fun n' ats => walkL (longL n) [s] 4 n' ats) = _
  rw [loadP_long (by simp; omega)]
  show ∃ l, (walkL (longL n) [s] 4 (2, 1, 5) [1, 4 * 8 + 0, 4 * 8 + 1]) = _
  unfold walkL
  rw [if_pos rfl]
  unfold findP
  rw [loadP_long (by simp; omega)]
  obtain ⟨l, hl⟩ := chain_long (n := n) s hs 1024 [1, 4 * 8 + 0, 4 * 8 + 1, 5 * 8 + bucketN s] (by simp) (by simp) (by simp; omega)
  refine ⟨l, ?_⟩
  show (chainP (longL n) s 1024 9 [1, 4 * 8 + 0, 4 * 8 + 1, 5 * 8 + bucketN s]).bind _ = _
  rw [hl]
  rfl
theorem runP_long {n : Nat} (hn : 2052 ≤ n) (hn2 : n ≤ 20000) : ∃ a1 a2 a3 a4 a5 a6 a7, runP [47, 97, 98] (longL n) = (cellsB false a1 a2 a3 a4 a5 a6 a7, 0) := by
  obtain ⟨l, hl⟩ := walked_long (n := n) [97, 98] (by decide) hn
  have hr : readP [47, 97, 98] = (0, [[97, 98]]) := by kernel_rfl
  rw [runP_yes (by rw [longL_length]; exact hn2) (by rw [hr]), hr]
  show ∃ a1 a2 a3 a4 a5 a6 a7, (runF (walkedP (longL n) [[97, 98]]), (0 : Int)) = _
  rw [hl]
  exact ⟨_, _, _, _, _, _, _, rfl⟩
theorem runP_longer {n : Nat} (hn : 20000 < n) : runP [47, 97, 98] (longL n) = (cellsB false 0 0 0 0 0 0 0, 3) := by
  have hr : readP [47, 97, 98] = (0, [[97, 98]]) := by kernel_rfl
  have hb : begunN [47, 97, 98] n = 3 := by unfold begunN; rw [hr, if_pos rfl, if_pos hn]
  unfold runP
  rw [longL_length, hb, if_neg (by decide)]
  rfl
end Go.Proofs.YtdlblbhmeidhbaaGreatDoor
