/- The iterator path.counts. Conditions: none. -/
import Derived.Test.YtkhpdlaljepkjaaDoorC6
import Derived.Test.YtkhpdlaljepkjaaDoorK2
namespace Go.Proofs.YtkhpdlaljepkjaaDoor
open Go.RowKit Go.Shelf
attribute [local go_sem] Oper.semAt_some

theorem range_prefix {k n : Nat} (h : k < n + 1) : List.range k ++ [k] <+: List.range (n + 1) := by
  rw [← List.range_succ]
  have : List.range (k + 1) = (List.range (n + 1)).take (k + 1) := by
    rw [List.take_range, Nat.min_eq_left (by omega)]
  rw [this]; exact List.take_prefix _ _
theorem range_prefix_inv {pre : List Nat} {x n : Nat} (h : pre ++ [x] <+: List.range n) : pre = List.range x ∧ x < n := by
  obtain ⟨t, ht⟩ := h
  have hl := congrArg List.length ht
  simp at hl
  have hx : (List.range n)[pre.length]? = some x := by rw [← ht]; simp
  rw [List.getElem?_range (by omega)] at hx
  have hx' : pre.length = x := by simpa using hx
  refine ⟨?_, by omega⟩
  have := congrArg (List.take pre.length) ht
  rw [List.append_assoc, List.take_left, List.take_range, Nat.min_eq_left (by omega), hx'] at this
  exact this

set_option maxRecDepth 100000 in
set_option maxHeartbeats 1000000 in
theorem counts1_in (l Bn n : Nat) (hn : n < 1000000) (J Jx : List Nat → World → Prop) (W : World)
    (hY : ∀ pre x W1, W.heap.size ≤ W1.heap.size → J pre W1 → pre ++ [x] <+: List.range (n + 1) → Yields Tryd.prog l #[.int .i64 (x : Nat)] W1 fun e W' =>
      (e = .returned (.bool true) ∧ J (pre ++ [x]) W' ∧ Keeps W.heap.size 0 W.heap.size W1 W') ∨ (e = .returned (.bool false) ∧ Jx (pre ++ [x]) W' ∧ Keeps W.heap.size 0 W.heap.size W1 W'))
    (hc : W.cell? ⟨Bn, 0, none⟩ = some (.int .i64 n)) (h0 : J [] W) :
    Calls Tryd.prog 36 #[.func (.yield l) #[] #[], .pointer (some ⟨Bn, 0, none⟩)] W fun e W' => (∃ v, e = .returned v) ∧
      ((∃ xs, xs = List.range (n + 1) ∧ J xs W') ∨ (∃ pre, pre <+: List.range (n + 1) ∧ Jx pre W')) := by
  have HY := Lib.hid hY
  have HJ := Lib.hid h0
  clear hY h0
  refine (callsIn_wide (n := 10)).1 ?_
  refine callsIn_of_wp Tryd.func36 rfl trivial ?_ rfl
  simp only [Tryd.ntmps36, List.size_toArray, List.length_cons, List.length_nil, Nat.reduceAdd, Nat.reduceSub, Array.replicate_succ, Array.replicate_zero, List.push_toArray, List.append_toArray, List.nil_append, List.cons_append]
  gi_wp2
  gi_loopw [6] (fun i wr => ∃ k : Nat, i = .int .i64 k ∧ k ≤ n + 1 ∧ W.heap.size ≤ wr.heap.size ∧ J (List.range k) wr) (fun i _ => n + 1 - (intOf i).toNat)
  case atStart => exact ⟨0, rfl, Nat.zero_le _, Nat.le_refl _, HJ.out⟩
  case round =>
    obtain ⟨k, rfl, hk, hsz, hj⟩ := hrel
    by_cases hlt : k < n + 1
    · obtain ⟨fn, tmps, assign, body, hy, hR⟩ := HY.out (List.range k) k wr hsz hj (range_prefix hlt)
      gi_wp2
      refine (hR _).mono ?_
      rintro e W3 (⟨rfl, hJ3, hk3⟩ | ⟨rfl, hJx3, _⟩)
      · gi_wp2
        go_roundw
        case rel => exact ⟨k + 1, by go_num, by omega, Nat.le_trans hsz hk3.size, by rw [List.range_succ]; exact hJ3⟩
        case measure => simp [intOf]; omega
      · gi_wp2
        refine bodyPost_ret (results_none rfl _ _ _) rfl ?_
        refine ⟨⟨_, rfl⟩, .inr ⟨_, ?_, hJx3⟩⟩
        exact range_prefix hlt
    · gi_wp2
      go_end0
      refine ⟨⟨_, rfl⟩, .inl ⟨_, ?_, hj⟩⟩
      rw [show k = n + 1 from by omega]

theorem counts_iter (Bn n : Nat) (hn : n < 1000000) (w : World) (hB : Bn < w.heap.size) (hc : w.cell? ⟨Bn, 0, none⟩ = some (.int .i64 n)) :
    Iter Tryd.prog 36 #[.pointer (some ⟨Bn, 0, none⟩)] (fun k : Nat => #[Value.int .i64 k]) 0 (fun xs => xs = List.range (n + 1)) (fun pre => pre <+: List.range (n + 1)) (fun pre x => pre ++ [x] <+: List.range (n + 1)) w :=
  fun l J Jx W hW _ _ hY h0 => (counts1_in l Bn n hn (J W.heap.size) (Jx W.heap.size) W (fun pre x W1 hs hj hlen => hY W.heap.size pre x W1 (Nat.le_refl _) hs hj hlen) ((hW.cell (p := ⟨Bn, 0, none⟩) hB).trans hc) (h0 _ (Nat.le_refl _))).mono
    fun _ _ ⟨hv, h⟩ => ⟨hv, h.elim (fun ⟨xs, h1, h2⟩ => .inl ⟨_, xs, Nat.le_refl _, h1, h2⟩) (fun ⟨xs, h1, h2⟩ => .inr ⟨_, xs, Nat.le_refl _, h1, h2⟩)⟩

theorem counts_any (n : Int) (w : World) :
    Calls Tryd.prog 27 #[.int .i64 n] w fun e w' => e = .returned (.func (.func 36) #[] #[.pointer (some ⟨w.heap.size, 0, none⟩)]) ∧ w' = w.alloc (.cells #[.int .i64 n] 3) := by
  go_enter Tryd.func27, Tryd.ntmps27
  go_wp2
  go_ret
  exact ⟨rfl, rfl⟩
end Go.Proofs.YtkhpdlaljepkjaaDoor
