/- What the trees' and the model's caught do. Conditions: none. -/
import Derived.Test.YtdpooagnbmpinaaGreatDoorZT3
import Derived.Test.YtdpooagnbmpinaaGreatDoorZGR
namespace Go.Proofs.YtdpooagnbmpinaaGreatDoor
open Go.RowKit
attribute [local go_sem] Oper.semAt_some

theorem nil_no (w : World) : (binOp .neq 20 .nilIface .nilIface).run Tryz.prog w = .ok (.bool false) w := by kernel_rfl
theorem err_yes (n : Int) (w : World) : (binOp .neq 20 (.iface 29 (.int .i64 n)) .nilIface).run Tryz.prog w = .ok (.bool true) w := by kernel_rfl
theorem err_as (n : Int) (w : World) : (Instr.typeAssert (.iface 29 (.int .i64 n)) 20 29 false).run Tryz.prog w = .ok (.int .i64 n) w := by kernel_rfl
/-- What a deferred caught does: at an error it stores it, and calls its function. -/
structure Catches (f : FuncId) : Prop where
  idle : ∀ (E : Addr) (cv : Value) (w : World), CallsD Tryz.prog f #[.pointer (some E), cv] .returning w fun e u' w' => e = .returned (.tuple #[]) ∧ u' = .returning ∧ w' = w
  err : ∀ (E : Nat) (fn : FuncId) (caps : Array Value) (c : Int) (older : List PanicEntry) (e0 : Value) (w' : World) (w : World), w.cell? ⟨E, 0, none⟩ = some e0 → w.frozen? ⟨E, 0, none⟩ = false →
    (∀ w, (callFunc fn caps).run Tryz.prog w = .ok (.enter fn caps) w) → (Calls Tryz.prog fn caps (w.setCell ⟨E, 0, none⟩ (.int .i64 c)) fun e w2 => e = .returned (.tuple #[]) ∧ w2 = w') →
    CallsD Tryz.prog f #[.pointer (some ⟨E, 0, none⟩), .func (.func fn) #[] caps] (.panicking (errE c :: older)) w fun e u' w2 =>
      e = .returned (.tuple #[]) ∧ u' = .panicking ({ v := .iface 29 (.int .i64 c), recovered := true } :: older) ∧ w2 = w'
set_option maxRecDepth 100000 in
theorem tree_catches : Catches 172 := by
  refine ⟨fun E cv w => ?_, fun E fn caps c older e0 F w hE hEf hent hclo => ?_⟩
  · refine callsD_of_wpS Tryz.func172 rfl fun c₀ cs hu => ?_
    simp only [Tryz.ntmps172, List.size_toArray, List.length_cons, List.length_nil, Nat.reduceAdd, Nat.reduceSub, Array.replicate_succ, Array.replicate_zero, List.push_toArray, List.append_toArray, List.nil_append, List.cons_append]
    apply wpS_seq
    apply wpS_region
    simp [wpOpsS, go_sem, recoverD, hu, Exit.thenS]
    refine wpS_of_wp ?_
    have h1 := nil_no
    go_wp2
    cases c₀
    simp_all [bodyPostS, results, Tryz.results172]
  · refine callsD_of_wpS Tryz.func172 rfl fun c₀ cs hu => ?_
    simp only [Tryz.ntmps172, List.size_toArray, List.length_cons, List.length_nil, Nat.reduceAdd, Nat.reduceSub, Array.replicate_succ, Array.replicate_zero, List.push_toArray, List.append_toArray, List.nil_append, List.cons_append]
    apply wpS_seq
    apply wpS_region
    simp [wpOpsS, go_sem, recoverD, hu, Exit.thenS, errE]
    refine wpS_of_wp ?_
    have h1 := err_yes
    have h2 := err_as
    have h3 := hent
    have HC := Lib.hid hclo
    clear hclo
    go_wp2_with (refine (HC.out).mono ?_; rintro e w2 ⟨rfl, rfl⟩)
    exact ⟨rfl, _, rfl, .tuple #[], results_none rfl _ _ _, rfl, rfl, rfl⟩
set_option maxRecDepth 100000 in
theorem model_catches : Catches 30 := by
  refine ⟨fun E cv w => ?_, fun E fn caps c older e0 F w hE hEf hent hclo => ?_⟩
  · refine callsD_of_wpS Tryz.func30 rfl fun c₀ cs hu => ?_
    simp only [Tryz.ntmps30, List.size_toArray, List.length_cons, List.length_nil, Nat.reduceAdd, Nat.reduceSub, Array.replicate_succ, Array.replicate_zero, List.push_toArray, List.append_toArray, List.nil_append, List.cons_append]
    apply wpS_seq
    apply wpS_region
    simp [wpOpsS, go_sem, recoverD, hu, Exit.thenS]
    refine wpS_of_wp ?_
    have h1 := nil_no
    go_wp2
    cases c₀
    simp_all [bodyPostS, results, Tryz.results30]
  · refine callsD_of_wpS Tryz.func30 rfl fun c₀ cs hu => ?_
    simp only [Tryz.ntmps30, List.size_toArray, List.length_cons, List.length_nil, Nat.reduceAdd, Nat.reduceSub, Array.replicate_succ, Array.replicate_zero, List.push_toArray, List.append_toArray, List.nil_append, List.cons_append]
    apply wpS_seq
    apply wpS_region
    simp [wpOpsS, go_sem, recoverD, hu, Exit.thenS, errE]
    refine wpS_of_wp ?_
    have h1 := err_yes
    have h2 := err_as
    have h3 := hent
    have HC := Lib.hid hclo
    clear hclo
    go_wp2_with (refine (HC.out).mono ?_; rintro e w2 ⟨rfl, rfl⟩)
    exact ⟨rfl, _, rfl, .tuple #[], results_none rfl _ _ _, rfl, rfl, rfl⟩
end Go.Proofs.YtdpooagnbmpinaaGreatDoor
