/- What told's deferred functions do. Conditions: none. -/
import Derived.Test.YtdlblbhmeidhbaaGreatDoorZGN
namespace Go.Proofs.YtdlblbhmeidhbaaGreatDoor
open Go.RowKit

theorem as_need_nil (w : World) : (Instr.typeAssert .nilIface 20 78 true).run Tryz.prog w = .ok (.tuple #[.int .i64 0, .bool false]) w := by kernel_rfl
theorem as_err_nil (w : World) : (Instr.typeAssert .nilIface 20 25 true).run Tryz.prog w = .ok (.tuple #[.int .i64 0, .bool false]) w := by kernel_rfl
theorem as_need_need (n : Int) (w : World) : (Instr.typeAssert (.iface 78 (.int .i64 n)) 20 78 true).run Tryz.prog w = .ok (.tuple #[.int .i64 n, .bool true]) w := by kernel_rfl
theorem as_need_err (n : Int) (w : World) : (Instr.typeAssert (.iface 25 (.int .i64 n)) 20 78 true).run Tryz.prog w = .ok (.tuple #[.int .i64 0, .bool false]) w := by kernel_rfl
theorem as_err_err (n : Int) (w : World) : (Instr.typeAssert (.iface 25 (.int .i64 n)) 20 25 true).run Tryz.prog w = .ok (.tuple #[.int .i64 n, .bool true]) w := by kernel_rfl
/-- What told's deferred function does. -/
structure Recovers (f : FuncId) : Prop where
  idle : ∀ (A M E : Addr) (w : World), CallsD Tryz.prog f #[.pointer (some A), .pointer (some M), .pointer (some E)] .returning w fun e u' w' => e = .returned (.tuple #[]) ∧ u' = .returning ∧ w' = w
  need : ∀ (A M E p : Nat) (older : List PanicEntry) (a0 m0 : Value) (w : World), A ≠ M → w.cell? ⟨A, 0, none⟩ = some a0 → w.frozen? ⟨A, 0, none⟩ = false → w.cell? ⟨M, 0, none⟩ = some m0 → w.frozen? ⟨M, 0, none⟩ = false →
    CallsD Tryz.prog f #[.pointer (some ⟨A, 0, none⟩), .pointer (some ⟨M, 0, none⟩), .pointer (some ⟨E, 0, none⟩)] (.panicking (needV p :: older)) w fun e u' w' =>
      e = .returned (.tuple #[]) ∧ u' = .panicking ({ v := .iface 78 (.int .i64 p), recovered := true } :: older) ∧ w' = (w.setCell ⟨A, 0, none⟩ (.int .i64 p)).setCell ⟨M, 0, none⟩ (.bool true)
  err : ∀ (A M E c : Nat) (older : List PanicEntry) (e0 : Value) (w : World), w.cell? ⟨E, 0, none⟩ = some e0 → w.frozen? ⟨E, 0, none⟩ = false →
    CallsD Tryz.prog f #[.pointer (some ⟨A, 0, none⟩), .pointer (some ⟨M, 0, none⟩), .pointer (some ⟨E, 0, none⟩)] (.panicking (errV c :: older)) w fun e u' w' =>
      e = .returned (.tuple #[]) ∧ u' = .panicking ({ v := .iface 25 (.int .i64 c), recovered := true } :: older) ∧ w' = w.setCell ⟨E, 0, none⟩ (.int .i64 c)
set_option maxRecDepth 100000 in
theorem walk_recovers : Recovers 26 := by
  refine ⟨fun A M E w => ?_, fun A M E p older a0 m0 w hne hA hAf hM hMf => ?_, fun A M E c older e0 w hE hEf => ?_⟩
  · refine callsD_of_wpS Tryz.func26 rfl fun c₀ cs hu => ?_
    simp only [Tryz.ntmps26, List.size_toArray, List.length_cons, List.length_nil, Nat.reduceAdd, Nat.reduceSub, Array.replicate_succ, Array.replicate_zero, List.push_toArray, List.append_toArray, List.nil_append, List.cons_append]
    apply wpS_seq
    apply wpS_region
    simp [wpOpsS, go_sem, recoverD, hu, Exit.thenS]
    refine wpS_of_wp ?_
    have h1 := as_need_nil
    have h2 := as_err_nil
    go_wp2
    cases c₀
    simp_all [bodyPostS, results, Tryz.results26]
  · refine callsD_of_wpS Tryz.func26 rfl fun c₀ cs hu => ?_
    simp only [Tryz.ntmps26, List.size_toArray, List.length_cons, List.length_nil, Nat.reduceAdd, Nat.reduceSub, Array.replicate_succ, Array.replicate_zero, List.push_toArray, List.append_toArray, List.nil_append, List.cons_append]
    apply wpS_seq
    apply wpS_region
    simp [wpOpsS, go_sem, recoverD, hu, Exit.thenS, needV]
    refine wpS_of_wp ?_
    have h1 := as_need_need
    have k1 : (w.setCell ⟨A, 0, none⟩ (.int .i64 p)).cell? ⟨M, 0, none⟩ = some m0 := (World.cell?_setCell_other _ _ _ _ (by intro e; injection e with e; exact hne e)).trans hM
    have k2 : (w.setCell ⟨A, 0, none⟩ (.int .i64 p)).frozen? ⟨M, 0, none⟩ = false := (World.frozen?_setCell _ _ _ _).trans hMf
    go_wp2
    exact ⟨rfl, _, rfl, .tuple #[], results_none rfl _ _ _, rfl, rfl, rfl⟩
  · refine callsD_of_wpS Tryz.func26 rfl fun c₀ cs hu => ?_
    simp only [Tryz.ntmps26, List.size_toArray, List.length_cons, List.length_nil, Nat.reduceAdd, Nat.reduceSub, Array.replicate_succ, Array.replicate_zero, List.push_toArray, List.append_toArray, List.nil_append, List.cons_append]
    apply wpS_seq
    apply wpS_region
    simp [wpOpsS, go_sem, recoverD, hu, Exit.thenS, errV]
    refine wpS_of_wp ?_
    have h1 := as_need_err
    have h2 := as_err_err
    go_wp2
    exact ⟨rfl, _, rfl, .tuple #[], results_none rfl _ _ _, rfl, rfl, rfl⟩
set_option maxRecDepth 100000 in
theorem int_recovers : Recovers 56 := by
  refine ⟨fun A M E w => ?_, fun A M E p older a0 m0 w hne hA hAf hM hMf => ?_, fun A M E c older e0 w hE hEf => ?_⟩
  · refine callsD_of_wpS Tryz.func56 rfl fun c₀ cs hu => ?_
    simp only [Tryz.ntmps56, List.size_toArray, List.length_cons, List.length_nil, Nat.reduceAdd, Nat.reduceSub, Array.replicate_succ, Array.replicate_zero, List.push_toArray, List.append_toArray, List.nil_append, List.cons_append]
    apply wpS_seq
    apply wpS_region
    simp [wpOpsS, go_sem, recoverD, hu, Exit.thenS]
    refine wpS_of_wp ?_
    have h1 := as_need_nil
    have h2 := as_err_nil
    go_wp2
    cases c₀
    simp_all [bodyPostS, results, Tryz.results56]
  · refine callsD_of_wpS Tryz.func56 rfl fun c₀ cs hu => ?_
    simp only [Tryz.ntmps56, List.size_toArray, List.length_cons, List.length_nil, Nat.reduceAdd, Nat.reduceSub, Array.replicate_succ, Array.replicate_zero, List.push_toArray, List.append_toArray, List.nil_append, List.cons_append]
    apply wpS_seq
    apply wpS_region
    simp [wpOpsS, go_sem, recoverD, hu, Exit.thenS, needV]
    refine wpS_of_wp ?_
    have h1 := as_need_need
    have k1 : (w.setCell ⟨A, 0, none⟩ (.int .i64 p)).cell? ⟨M, 0, none⟩ = some m0 := (World.cell?_setCell_other _ _ _ _ (by intro e; injection e with e; exact hne e)).trans hM
    have k2 : (w.setCell ⟨A, 0, none⟩ (.int .i64 p)).frozen? ⟨M, 0, none⟩ = false := (World.frozen?_setCell _ _ _ _).trans hMf
    go_wp2
    exact ⟨rfl, _, rfl, .tuple #[], results_none rfl _ _ _, rfl, rfl, rfl⟩
  · refine callsD_of_wpS Tryz.func56 rfl fun c₀ cs hu => ?_
    simp only [Tryz.ntmps56, List.size_toArray, List.length_cons, List.length_nil, Nat.reduceAdd, Nat.reduceSub, Array.replicate_succ, Array.replicate_zero, List.push_toArray, List.append_toArray, List.nil_append, List.cons_append]
    apply wpS_seq
    apply wpS_region
    simp [wpOpsS, go_sem, recoverD, hu, Exit.thenS, errV]
    refine wpS_of_wp ?_
    have h1 := as_need_err
    have h2 := as_err_err
    go_wp2
    exact ⟨rfl, _, rfl, .tuple #[], results_none rfl _ _ _, rfl, rfl, rfl⟩
end Go.Proofs.YtdlblbhmeidhbaaGreatDoor
