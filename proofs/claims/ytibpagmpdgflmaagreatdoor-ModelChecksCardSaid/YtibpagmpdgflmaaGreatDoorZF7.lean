/- The contract of model.checked. The contract of model.checked. The contracts of model.Check and model.Asks. Conditions: none. -/
import Derived.Test.YtibpagmpdgflmaaGreatDoorZF4
import Derived.Test.YtibpagmpdgflmaaGreatDoorZU1
namespace Go.Proofs.YtibpagmpdgflmaaGreatDoor
open Go.RowKit Go.Maps
attribute [local go_sem] Oper.semAt_some

theorem whichever_both {F : Fence} {n : Nat} {P : Program} {ops : Array Oper} {Q : Exit → Act → World → Prop} {md : Region.Mode} {S : World → Prop} {late : List Nat} (i j : Nat) {oi oj : Oper} {f : Nat} {l : Array Bool} {a : Act} {w : World}
    (hi : ops[i]? = some oi) (hj : ops[j]? = some oj) (hr : Region.ready md ops l = [i, j]) (hwi : Region.wanted oi (yielded ops a.tmps) = true) (hwj : Region.wanted oj (yielded ops a.tmps) = true)
    (h1 : oi.wpIn F n P a w (fun a' w' => (i ∉ late → S w') ∧ Whichever F n P ops Q md S late f (l.setIfInBounds i true) a' w') Q)
    (h2 : oj.wpIn F n P a w (fun a' w' => (j ∉ late → S w') ∧ Whichever F n P ops Q md S late f (l.setIfInBounds j true) a' w') Q) : Whichever F n P ops Q md S late (f + 1) l a w := by
  refine ⟨fun e => (by rw [hr] at e; cases e), fun k hk => ?_⟩
  rw [hr] at hk
  have hk' : k = i ∨ k = j := by simpa using hk
  rcases hk' with rfl | rfl
  · unfold wpOpIn
    simp only [hi, hwi, if_true]
    exact h1
  · unfold wpOpIn
    simp only [hj, hwj, if_true]
    exact h2
def numV : Nat → Value
  | 3 => .func (.func 132) #[] #[]
  | 10 => .func (.func 104) #[] #[]
  | 11 => .func (.func 107) #[] #[]
  | _ => .nilFunc
/-- A function, or none. -/
def Plain1 (v : Value) : Prop := v = .nilFunc ∨ ∃ fn f c, v = .func fn f c
theorem Plain1.cells {v : Value} (h : Plain1 v) : v.cells = #[v] := by
  rcases h with rfl | ⟨fn, f, c, rfl⟩ <;> rfl
theorem Plain1.store {P : Program} {v c : Value} {q : Addr} {w : World} (h : Plain1 v) (hc : w.cell? q = some c) (hf : w.frozen? q = false) : (Go.store q v).run P w = .ok () (w.setCell q v) := by
  rcases h with rfl | ⟨fn, f, cc, rfl⟩ <;> (rw [run_store P w q _ _ rfl]; simp [stored, hc, hf])
theorem act_form {n : Nat} {v : Nat → Value} {W : World} (h : ActsAt n v W) (k : Nat) (hk : 1 ≤ k ∧ k ≤ 11) : ∃ d, v k = .agg #[.bool (decide (k = 8 ∨ k = 9)), numV k, d] ∧ Plain1 d := by
  obtain ⟨h1, h2, h3, h4, h5, h6, h7, h8, h9, h10, h11⟩ := h
  have hh : k = 1 ∨ k = 2 ∨ k = 3 ∨ k = 4 ∨ k = 5 ∨ k = 6 ∨ k = 7 ∨ k = 8 ∨ k = 9 ∨ k = 10 ∨ k = 11 := by omega
  rcases hh with rfl | rfl | rfl | rfl | rfl | rfl | rfl | rfl | rfl | rfl | rfl
  · exact ⟨_, h1, .inr ⟨_, _, _, rfl⟩⟩
  · obtain ⟨X, Y, _, _, e, _⟩ := h2; exact ⟨_, e, .inr ⟨_, _, _, rfl⟩⟩
  · exact ⟨_, h3, .inr ⟨_, _, _, rfl⟩⟩
  · obtain ⟨X, _, e, _⟩ := h4; exact ⟨_, e, .inr ⟨_, _, _, rfl⟩⟩
  · obtain ⟨X, _, e, _⟩ := h5; exact ⟨_, e, .inr ⟨_, _, _, rfl⟩⟩
  · obtain ⟨X, _, e, _⟩ := h6; exact ⟨_, e, .inr ⟨_, _, _, rfl⟩⟩
  · obtain ⟨X, _, e, _⟩ := h7; exact ⟨_, e, .inr ⟨_, _, _, rfl⟩⟩
  · obtain ⟨X, _, e, _⟩ := h8; exact ⟨_, e, .inr ⟨_, _, _, rfl⟩⟩
  · obtain ⟨X, _, e, _⟩ := h9; exact ⟨_, e, .inr ⟨_, _, _, rfl⟩⟩
  · obtain ⟨X, _, e, _⟩ := h10; exact ⟨_, e, .inr ⟨_, _, _, rfl⟩⟩
  · obtain ⟨X, _, e, _⟩ := h11; exact ⟨_, e, .inr ⟨_, _, _, rfl⟩⟩
theorem zeroAct (w : World) : (zeroValue 75).run Tryz.prog w = .ok (.agg #[.bool false, .nilFunc, .nilFunc]) w := by kernel_rfl
theorem own_set {P : Program} {k : TypeId} {b n B i : Nat} {D : DataW Value} {v : Value} {W : World} (h : W.ownsMap P k heldV b n D) (hne : b ≠ B) : (W.setCell ⟨B, i, none⟩ v).ownsMap P k heldV b n D := by
  obtain ⟨es, clock, hb', r⟩ := h
  exact ⟨es, clock, (Below.heap_setCell W ⟨B, i, none⟩ v b hne).trans hb', r⟩
theorem numV_plain (q : Nat) : Plain1 (numV q) := by
  unfold numV
  split
  · exact .inr ⟨_, _, _, rfl⟩
  · exact .inr ⟨_, _, _, rfl⟩
  · exact .inr ⟨_, _, _, rfl⟩
  · exact .inl rfl
/-- A Kind's act. -/
def actX (v : Nat → Value) (k : Int) : Value := if 1 ≤ k ∧ k ≤ 11 then v k.toNat else .agg #[.bool false, .nilFunc, .nilFunc]
theorem acts_look {W : World} {b : Nat} {v : Nat → Value} (h : W.ownsMap Tryz.prog 30 heldV b 11 (actsD v)) (k : Int) (hk : -9223372036854775808 ≤ k ∧ k < 9223372036854775808) :
    (Instr.lookup 101 (.map (some b)) (.int .i64 k) true).run Tryz.prog W = .ok (.tuple #[actX v k, .bool (decide (1 ≤ k ∧ k ≤ 11))]) W := by
  have hwf : (Lit.int .i64 k).wf = true := by
    simp only [Lit.wf, Bool.and_eq_true]
    refine ⟨decide_eq_true ?_, decide_eq_true ?_⟩
    · show (-9223372036854775808 : Int) ≤ k
      exact hk.1
    · show k ≤ 9223372036854775807
      omega
  obtain ⟨x, h1, h2⟩ := held_ok h keyedK Tryz.underlyingActs (zeroAct W) (keyK hwf)
  rw [actsD_in] at h1
  have e : x = actX v k := by
    unfold actX
    by_cases hin : 1 ≤ k ∧ k ≤ 11
    · rw [if_pos hin]
      obtain ⟨q, rfl⟩ : ∃ q : Nat, k = q := ⟨k.toNat, by omega⟩
      rw [actsD_at v q (by omega) (by omega)] at h2
      have e : v q = x := by injection h2
      exact e.symm
    · rw [if_neg hin]
      rw [atKey_of_not_has (by rw [actsD_in]; exact decide_eq_false hin)] at h2
      have e : Value.agg #[.bool false, .nilFunc, .nilFunc] = x := by injection h2
      exact e.symm
  rw [← e]
  exact h1
theorem act_shape {n : Nat} {v : Nat → Value} {W : World} (h : ActsAt n v W) (k : Int) : ∃ d, actX v k = .agg #[.bool (decide (k = 8 ∨ k = 9)), numV k.toNat, d] ∧ Plain1 d := by
  unfold actX
  by_cases hin : 1 ≤ k ∧ k ≤ 11
  · obtain ⟨q, rfl⟩ : ∃ q : Nat, k = q := ⟨k.toNat, by omega⟩
    obtain ⟨d, hd, hdc⟩ := act_form h q (by omega)
    have e2 : decide (q = 8 ∨ q = 9) = decide ((q : Int) = 8 ∨ (q : Int) = 9) := by rw [decide_eq_decide]; omega
    have e3 : (q : Int).toNat = q := Int.toNat_natCast q
    exact ⟨d, by rw [if_pos hin, e3, hd, e2], hdc⟩
  · refine ⟨.nilFunc, ?_, .inl rfl⟩
    rw [if_neg hin, show decide (k = 8 ∨ k = 9) = false from decide_eq_false (by omega)]
    have hn : numV k.toNat = .nilFunc := by
      unfold numV
      split
      · omega
      · omega
      · omega
      · rfl
    rw [hn]
theorem two_0 (x y : Value) (w : World) : (Instr.index 103 (.agg #[x, y]) (.int .i64 0)).run Tryz.prog w = .ok x w := by kernel_rfl
theorem two_1 (x y : Value) (w : World) : (Instr.index 103 (.agg #[x, y]) (.int .i64 1)).run Tryz.prog w = .ok y w := by kernel_rfl
theorem fn_nil (w : World) : (binOp .neq 36 .nilFunc .nilFunc).run Tryz.prog w = .ok (.bool false) w := by kernel_rfl
theorem fn_is (fn : Fn) (f c : Array Value) (w : World) : (binOp .neq 36 (.func fn f c) .nilFunc).run Tryz.prog w = .ok (.bool true) w := by kernel_rfl
/-- What the numbers of an operation say. -/
def numZ (k a n : Int) (bl : Nat) : Int := if k = 3 then readNo a n else if k = 10 then writeN a bl else if k = 11 then cutN n else 0
theorem checkN_pass {k a n : Int} {bl : Nat} {p d : List UInt8} (h1 : ¬ (k < 1 ∨ 11 < k)) (h2 : (readP p).1 = 0) (h3 : ¬ ((k = 8 ∨ k = 9) ∧ (readP d).1 ≠ 0)) : checkN k p d a n bl = numZ k a n bl := by
  unfold checkN numZ readNo writeN cutN
  rw [if_neg h1, if_neg (by rw [h2]; exact fun h => h rfl), if_neg h3]
theorem mmust_any (b : Bool) (c : Int) (W : World) :
    Calls Tryz.prog 40 #[.bool b, .int .i64 c] W fun e W' => e = (if b then .returned (.tuple #[]) else .panicked [errE c]) ∧ W' = W := by
  cases b
  · go_enter Tryz.func40, Tryz.ntmps40
    go_wp2
    exact ⟨rfl, rfl, rfl⟩
  · go_enter Tryz.func40, Tryz.ntmps40
    go_wp2
    go_end0
    exact ⟨rfl, rfl⟩
theorem fine_any (c : Int) (W : World) :
    Calls Tryz.prog 55 #[.int .i64 c] W fun e W' => e = (if c = 0 then .returned (.tuple #[]) else .panicked [errE c]) ∧ W' = W := by
  have HM := Lib.hid mmust_any
  by_cases h : c = 0
  · subst h
    go_enter Tryz.func55, Tryz.ntmps55
    go_wp2_with (go_at_call 40; refine (HM.out _ _ _).mono ?_; rintro e w2 ⟨rfl, rfl⟩)
    go_end0
    exact ⟨rfl, rfl⟩
  · have hc : (c == 0) = false := by rw [beq_eq_false_iff_ne]; exact h
    rw [if_neg h]
    go_enter Tryz.func55, Tryz.ntmps55
    go_wp2_with (go_at_call 40; refine (HM.out _ _ _).mono ?_; rintro e w2 ⟨rfl, rfl⟩)
    exact ⟨rfl, rfl, rfl⟩
theorem check1_any (W : World) : Calls Tryz.prog 33 #[] W fun e W' => e = .returned (.tuple #[]) ∧ W' = W := by
  go_enter Tryz.func33, Tryz.ntmps33
  go_wp2
  go_end0
  exact ⟨rfl, rfl⟩
/-- What Kind says of a path on the empty tree, as the model asks it. -/
theorem kindT_err (r m : Nat) (s : List UInt8) : ((readP s).1 ≠ 0 ∧ (kindT (gNew r m) r s).2 = (readP s).1 ∧ ((readP s).1 = 170 ∨ (readP s).1 = 160)) ∨ ((readP s).1 = 0 ∧ ((kindT (gNew r m) r s).2 = 0 ∨ (kindT (gNew r m) r s).2 = 202)) := by
  rw [kindT_new]
  rcases readP_cases s with ⟨h1, _⟩ | ⟨h1, _⟩
  · right
    refine ⟨h1, ?_⟩
    rw [if_neg (by rw [h1]; exact fun h => h rfl)]
    split
    · exact .inl rfl
    · exact .inr rfl
  · left
    have hne : (readP s).1 ≠ 0 := by rcases h1 with h | h <;> rw [h] <;> decide
    exact ⟨hne, by rw [if_pos hne], h1⟩
/-- What checked tells. -/
def CheckedR (z : Int) (W : World) (e : Ending) (W' : World) : Prop := (if z = 0 then ∃ v, e = .returned v else e = .panicked [errE z]) ∧ Below W.heap.size W W'
theorem CheckedR.bad {z : Int} {W W' : World} (h : z ≠ 0) (hb : Below W.heap.size W W') : CheckedR z W (.panicked [errE z]) W' := ⟨by rw [if_neg h], hb⟩
theorem CheckedR.good {z : Int} {W W' : World} {v : Value} (h : z = 0) (hb : Below W.heap.size W W') : CheckedR z W (.returned v) W' := ⟨by rw [if_pos h]; exact ⟨v, rfl⟩, hb⟩
end Go.Proofs.YtibpagmpdgflmaaGreatDoor

namespace Go.Proofs.YtibpagmpdgflmaaGreatDoor
open Go.RowKit Go.Maps
attribute [local go_sem] Oper.semAt_some

theorem num_ways (k : Int) (p d : ByteArray) (a n : Int) (A : Option Addr) (m c : Nat) (bs : List UInt8) (hl : bs.length = m) (hm : m ≤ maxLen) (ha : a < 9223372036854775808) (hn : n < 9223372036854775808) : (numV k.toNat = .nilFunc ∧ numZ k a n m = 0) ∨
    ∃ f, numV k.toNat = .func (.func f) #[] #[] ∧ (∀ args w, (callFunc f args).run Tryz.prog w = .ok (.enter f args) w) ∧ ∀ W, RowAt W A (bs.map encB) → Calls Tryz.prog f #[opV k p d a n A m c] W fun e W' => e = .returned (.int .i64 (numZ k a n m)) ∧ Below W.heap.size W W' := by
  by_cases h3 : k = 3
  · subst h3
    exact .inr ⟨132, rfl, fun _ _ => enters_of Tryz.func132 (by kernel_rfl) rfl _ _, fun W _ => numRead_any 3 p d a n A m c W ha hn⟩
  · by_cases h10 : k = 10
    · subst h10
      exact .inr ⟨104, rfl, fun _ _ => enters_of Tryz.func104 (by kernel_rfl) rfl _ _, fun W h => numWrite_any 10 p d a n A m c bs W hl hm h⟩
    · by_cases h11 : k = 11
      · subst h11
        exact .inr ⟨107, rfl, fun _ _ => enters_of Tryz.func107 (by kernel_rfl) rfl _ _, fun W _ => numCut_any 11 p d a n A m c W⟩
      · refine .inl ⟨?_, by unfold numZ; rw [if_neg h3, if_neg h10, if_neg h11]⟩
        unfold numV
        split
        · omega
        · omega
        · omega
        · rfl

set_option maxRecDepth 100000 in
set_option maxHeartbeats 8000000 in
theorem checked_any (k : Int) (p d : ByteArray) (a n : Int) (A : Option Addr) (m c : Nat) (bs : List UInt8) (W : World) (hk64 : -9223372036854775808 ≤ k ∧ k < 9223372036854775808) (hp : p.size < 4294967281) (hd : d.size < 4294967281) (hl : bs.length = m) (hm : m ≤ maxLen) (hrow : RowAt W A (bs.map encB)) (ha : a < 9223372036854775808) (hn : n < 9223372036854775808) :
    Calls Tryz.prog 34 #[opV k p d a n A m c] W (CheckedR (checkN k (bytesOf p) (bytesOf d) a n m) W) := by
  have hmx : Tryz.prog.follows .mixedOrders = true := by kernel_rfl
  obtain ⟨z, hz⟩ : ∃ z, checkN k (bytesOf p) (bytesOf d) a n m = z := ⟨_, rfl⟩
  rw [hz]
  have HZ := Lib.hid hz
  clear hz
  obtain ⟨W0, hW0⟩ : ∃ W0, (W.alloc (.cells #[.int .i64 k, .string p, .string d, .int .i64 a, .int .i64 n, .slice A m c] 32)).alloc (.cells #[.bool false, .nilFunc, .nilFunc] 75) = W0 := ⟨_, rfl⟩
  have hb0 : Below W.heap.size W W0 := by rw [← hW0]; exact (((Below.refl _ _).alloc (Nat.le_refl _) _).alloc (by simp) _)
  have hs0 : W0.heap.size = W.heap.size + 2 := by rw [← hW0]; simp
  have hOP : CellsAt W0 W.heap.size 6 (cellsOp k p d a n A m c) := by
    rw [← hW0]
    exact (cellsAt_new W _ _ 6 _ fun i hi => match i, hi with | 0, _ => rfl | 1, _ => rfl | 2, _ => rfl | 3, _ => rfl | 4, _ => rfl | 5, _ => rfl).below (m := W.heap.size + 1) ((Below.refl _ _).alloc (by simp) _) (by omega)
  have hRS : CellsAt W0 (W.heap.size + 1) 3 (fun i => match i with | 0 => .bool false | _ => .nilFunc) := by
    rw [← hW0]
    have := cellsAt_new (W.alloc (.cells #[.int .i64 k, .string p, .string d, .int .i64 a, .int .i64 n, .slice A m c] 32)) #[.bool false, .nilFunc, .nilFunc] 75 3 (fun i => match i with | 0 => .bool false | _ => .nilFunc) fun i hi => match i, hi with | 0, _ => rfl | 1, _ => rfl | 2, _ => rfl
    rw [show (W.alloc (.cells #[.int .i64 k, .string p, .string d, .int .i64 a, .int .i64 n, .slice A m c] 32)).heap.size = W.heap.size + 1 from by simp] at this
    exact this
  have hS0 : W0.drew.cell? ⟨W.heap.size, 0, none⟩ = some (.int .i64 k) := hOP.1 0 (by omega)
  have HOP := Lib.hid hOP
  have HRS := Lib.hid hRS
  have HW0 := Lib.hid hW0
  clear hOP hRS hW0
  unfold opV
  go_enter Tryz.func34, Tryz.ntmps34
  go_wp2_with fail
  rename_i K hK
  rw [HW0.out]
  have HK := Lib.hid hK
  clear hK
  refine (wpIn_wide (n := 10)).1 ?_
  refine whichever_region (fun w => w.cell? ⟨W.heap.size, 0, none⟩ = some (.int .i64 k)) [] hmx ?_
  refine whichever_take 1 (.pointer (some ⟨W.heap.size, 0, none⟩)) [] rfl (by kernel_rfl) (fun _ _ _ h => h) hS0 (by rfl) (fun w hw => ?_) ?_
  · constructor <;> go_simp
  refine whichever_take 2 (.int .i64 k) [] rfl (by kernel_rfl) (fun _ _ _ h => h) hS0 (by rfl) (fun w hw => ?_) ?_
  · constructor <;> go_simp
  refine whichever_both 0 7 rfl rfl (by kernel_rfl) (by rfl) (by rfl) ?g1 ?g2
  case' g1 =>
    go_simp
    refine ⟨trivial, callsIn_wide.2 ((acts_any W0.drew).mono ?_)⟩
    rintro e w1 ⟨v, rfl, hown, hact, hb1⟩
    have hb1' : Below W0.heap.size W0 w1 := (Below.refl _ W0).drew.trans hb1
    have hS1 : w1.cell? ⟨W.heap.size, 0, none⟩ = some (.int .i64 k) := (hb1'.cell (p := ⟨W.heap.size, 0, none⟩) (by show W.heap.size < W0.heap.size; omega)).trans (HOP.out.1 0 (by omega))
    refine ⟨hS1, ?_⟩
    obtain ⟨M, hM⟩ : ∃ M, W0.drew.heap.size = M := ⟨_, rfl⟩
    obtain ⟨dd, hdd, hdc⟩ := act_shape hact k
    have hnc := numV_plain k.toNat
    obtain ⟨nv, hnv⟩ : ∃ nv, numV k.toNat = nv := ⟨_, rfl⟩
    rw [hnv] at hdd hnc
    have hnc1 := hnc.cells
    have hdc1 := hdc.cells
    obtain ⟨tw, htw⟩ : ∃ tw, decide (k = 8 ∨ k = 9) = tw := ⟨_, rfl⟩
    rw [htw] at hdd
    obtain ⟨inn, hinn⟩ : ∃ inn, decide (1 ≤ k ∧ k ≤ 11) = inn := ⟨_, rfl⟩
    rw [hM] at hown hact ⊢
    refine whichever_strong (S' := fun w => w.cell? ⟨W.heap.size, 0, none⟩ = some (.int .i64 k) ∧ w.ownsMap Tryz.prog 30 heldV M 11 (actsD v)) (fun w h => h.1) _ _ _ _ ?_
    refine whichever_take 3 (.tuple #[actX v k, .bool inn]) [] rfl (by kernel_rfl) (fun _ _ _ h => h) ⟨hS1, hown⟩ (by rfl) (fun w hw => ?_) ?_
    · have hlk := acts_look hw.2 k hk64
      rw [hinn] at hlk
      constructor <;> go_simp
    refine whichever_take 4 (.tuple #[actX v k, .bool inn]) [] rfl (by kernel_rfl) (fun _ _ _ h => h) ⟨hS1, hown⟩ (by rfl) (fun w hw => ?_) ?_
    · constructor <;> go_simp
    refine whichever_take 5 (actX v k) [] rfl (by kernel_rfl) (fun _ _ _ h => h) ⟨hS1, hown⟩ (by rfl) (fun w hw => ?_) ?_
    · constructor <;> go_simp
    refine whichever_take 6 (.bool inn) [] rfl (by kernel_rfl) (fun _ _ _ h => h) ⟨hS1, hown⟩ (by rfl) (fun w hw => ?_) ?_
    · constructor <;> go_simp
    refine whichever_next 7 rfl (by kernel_rfl) (by rfl) ?_
    go_simp
    obtain ⟨w2, hw2⟩ : ∃ w2, w1.alloc (.cells #[.bool false, .nilFunc, .nilFunc] 75) = w2 := ⟨_, rfl⟩
    obtain ⟨B, hB⟩ : ∃ B, w1.heap.size = B := ⟨_, rfl⟩
    have hcz : CellsAt w2 B 3 (fun i => match i with | 0 => .bool false | _ => .nilFunc) := by
      rw [← hw2, ← hB]; exact cellsAt_new _ _ _ _ _ fun i hi => match i, hi with | 0, _ => rfl | 1, _ => rfl | 2, _ => rfl
    have hb2 : Below w1.heap.size w1 w2 := by rw [← hw2]; exact (Below.refl _ _).alloc (Nat.le_refl _) _
    have hown2 := own_below hown hb2
    have hML := Array.getElem?_eq_some_iff.1 hown.choose_spec.choose_spec.1
    have hM0 : M = W0.heap.size := hM.symm
    have hS2 : w2.cell? ⟨W.heap.size, 0, none⟩ = some (.int .i64 k) := (hb2.cell (p := ⟨W.heap.size, 0, none⟩) (by have := hb1'.size; show W.heap.size < w1.heap.size; omega)).trans hS1
    have hBW : Below W0.heap.size W0 w2 := hb1'.trans (hb2.mono hb1'.size)
    have hBl : W0.heap.size ≤ B := by rw [← hB]; exact hb1'.size
    rw [hw2, hB]
    refine ⟨⟨hS2, hown2⟩, ?_⟩
    have hMB : M < B := by have := hML.1; omega
    have hne1 : M ≠ B := by omega
    have hne2 : W.heap.size ≠ B := by omega
    have z0 := hcz.1 0 (by omega)
    have z1 := hcz.1 1 (by omega)
    have z2 := hcz.1 2 (by omega)
    have y0 := hcz.2 0
    have y1 := hcz.2 1
    have y2 := hcz.2 2
    have s1 := hnc.store (P := Tryz.prog) (q := ⟨B, 1, none⟩) (w := w2.setCell ⟨B, 0, none⟩ (.bool tw)) ((World.cell?_setCell_other _ _ _ _ (by intro e; injection e with _ e; cases e)).trans z1) ((World.frozen?_setCell _ _ _ _).trans y1)
    have s2 := hdc.store (P := Tryz.prog) (q := ⟨B, 2, none⟩) (w := (w2.setCell ⟨B, 0, none⟩ (.bool tw)).setCell ⟨B, 1, none⟩ nv) ((World.cell?_setCell_other _ _ _ _ (by intro e; injection e with _ e; cases e)).trans ((World.cell?_setCell_other _ _ _ _ (by intro e; injection e with _ e; cases e)).trans z2)) ((World.frozen?_setCell _ _ _ _).trans ((World.frozen?_setCell _ _ _ _).trans y2))
    refine whichever_next 8 rfl (by kernel_rfl) (by rfl) ?_
    rw [show M = W.heap.size + 2 from by omega] at hown2 hne1
    go_simp
    refine ⟨own_set (own_set (own_set hown2 hne1) hne1) hne1, ?_⟩
    refine whichever_next 9 rfl (by kernel_rfl) (by rfl) ?_
    go_simp
    refine ⟨own_set (own_set (own_set hown2 hne1) hne1) hne1, ?_⟩
    refine whichever_end (by kernel_rfl) ?_
    refine HK.out _ _ ?_
    obtain ⟨wF, hwF⟩ : ∃ wF, ((w2.setCell ⟨B, 0, none⟩ (.bool tw)).setCell ⟨B, 1, none⟩ nv).setCell ⟨B, 2, none⟩ dd = wF := ⟨_, rfl⟩
    have hBF : Below W0.heap.size W0 wF := by rw [← hwF]; exact ((hBW.setCell (p := ⟨B, 0, none⟩) hBl _).setCell (p := ⟨B, 1, none⟩) hBl _).setCell (p := ⟨B, 2, none⟩) hBl _
    have hzF : CellsAt wF B 3 (fun i => match i with | 0 => .bool tw | 1 => nv | _ => dd) := by
      rw [← hwF]
      refine cells_congr (((hcz.upd (i := 0) (v := .bool tw) (by omega)).upd (i := 1) (v := nv) (by omega)).upd (i := 2) (v := dd) (by omega)) fun i hi => match i, hi with | 0, _ => rfl | 1, _ => rfl | 2, _ => rfl
    rw [hwF]
    clear hwF s1 s2 z0 z1 z2 y0 y1 y2 hown2 hcz hS2 hBW hb2 hw2 hown hS1 hb1 hb1' hact hML
  case' g2 =>
    go_simp
    refine ⟨hS0, ?_⟩
    refine whichever_next 0 rfl (by kernel_rfl) (by rfl) ?_
    go_simp
    obtain ⟨w1, hw1⟩ : ∃ w1, (W0.alloc (.cells #[.bool false, .nilFunc, .nilFunc] 75)).drew = w1 := ⟨_, rfl⟩
    have hcz1 : CellsAt w1 (W.heap.size + 2) 3 (fun i => match i with | 0 => .bool false | _ => .nilFunc) := by
      rw [← hw1, ← hs0]; exact (cellsAt_new W0 _ _ _ _ fun i hi => match i, hi with | 0, _ => rfl | 1, _ => rfl | 2, _ => rfl)
    have hb1' : Below W0.heap.size W0 w1 := by rw [← hw1]; exact ((Below.refl _ _).alloc (Nat.le_refl _) _).drew
    have hsw1 : w1.heap.size = W0.heap.size + 1 := by rw [← hw1]; simp [World.drew]
    rw [hw1]
    refine ⟨trivial, callsIn_wide.2 ((acts_any w1).mono ?_)⟩
    rintro e w2 ⟨v, rfl, hown, hact, hb2⟩
    have hcz : CellsAt w2 (W.heap.size + 2) 3 (fun i => match i with | 0 => .bool false | _ => .nilFunc) := hcz1.below hb2 (by omega)
    have hBW : Below W0.heap.size W0 w2 := hb1'.trans (hb2.mono hb1'.size)
    have hS1 : w2.cell? ⟨W.heap.size, 0, none⟩ = some (.int .i64 k) := (hBW.cell (p := ⟨W.heap.size, 0, none⟩) (by show W.heap.size < W0.heap.size; omega)).trans (HOP.out.1 0 (by omega))
    refine ⟨hS1, ?_⟩
    obtain ⟨M, hM⟩ : ∃ M, w1.heap.size = M := ⟨_, rfl⟩
    obtain ⟨dd, hdd, hdc⟩ := act_shape hact k
    have hnc := numV_plain k.toNat
    obtain ⟨nv, hnv⟩ : ∃ nv, numV k.toNat = nv := ⟨_, rfl⟩
    rw [hnv] at hdd hnc
    have hnc1 := hnc.cells
    have hdc1 := hdc.cells
    obtain ⟨tw, htw⟩ : ∃ tw, decide (k = 8 ∨ k = 9) = tw := ⟨_, rfl⟩
    rw [htw] at hdd
    obtain ⟨inn, hinn⟩ : ∃ inn, decide (1 ≤ k ∧ k ≤ 11) = inn := ⟨_, rfl⟩
    rw [hM] at hown hact ⊢
    have hown2 := hown
    have hBl : W0.heap.size ≤ (W.heap.size + 2) := Nat.le_of_eq hs0
    refine whichever_strong (S' := fun w => w.cell? ⟨W.heap.size, 0, none⟩ = some (.int .i64 k) ∧ w.ownsMap Tryz.prog 30 heldV M 11 (actsD v)) (fun w h => h.1) _ _ _ _ ?_
    refine whichever_take 3 (.tuple #[actX v k, .bool inn]) [] rfl (by kernel_rfl) (fun _ _ _ h => h) ⟨hS1, hown⟩ (by rfl) (fun w hw => ?_) ?_
    · have hlk := acts_look hw.2 k hk64
      rw [hinn] at hlk
      constructor <;> go_simp
    refine whichever_take 4 (.tuple #[actX v k, .bool inn]) [] rfl (by kernel_rfl) (fun _ _ _ h => h) ⟨hS1, hown⟩ (by rfl) (fun w hw => ?_) ?_
    · constructor <;> go_simp
    refine whichever_take 5 (actX v k) [] rfl (by kernel_rfl) (fun _ _ _ h => h) ⟨hS1, hown⟩ (by rfl) (fun w hw => ?_) ?_
    · constructor <;> go_simp
    refine whichever_take 6 (.bool inn) [] rfl (by kernel_rfl) (fun _ _ _ h => h) ⟨hS1, hown⟩ (by rfl) (fun w hw => ?_) ?_
    · constructor <;> go_simp
    have hne1 : M ≠ (W.heap.size + 2) := by omega
    have hne2 : W.heap.size ≠ (W.heap.size + 2) := by omega
    have z0 := hcz.1 0 (by omega)
    have z1 := hcz.1 1 (by omega)
    have z2 := hcz.1 2 (by omega)
    have y0 := hcz.2 0
    have y1 := hcz.2 1
    have y2 := hcz.2 2
    have s1 := hnc.store (P := Tryz.prog) (q := ⟨W.heap.size + 2, 1, none⟩) (w := w2.setCell ⟨W.heap.size + 2, 0, none⟩ (.bool tw)) ((World.cell?_setCell_other _ _ _ _ (by intro e; injection e with _ e; cases e)).trans z1) ((World.frozen?_setCell _ _ _ _).trans y1)
    have s2 := hdc.store (P := Tryz.prog) (q := ⟨W.heap.size + 2, 2, none⟩) (w := (w2.setCell ⟨W.heap.size + 2, 0, none⟩ (.bool tw)).setCell ⟨W.heap.size + 2, 1, none⟩ nv) ((World.cell?_setCell_other _ _ _ _ (by intro e; injection e with _ e; cases e)).trans ((World.cell?_setCell_other _ _ _ _ (by intro e; injection e with _ e; cases e)).trans z2)) ((World.frozen?_setCell _ _ _ _).trans ((World.frozen?_setCell _ _ _ _).trans y2))
    refine whichever_next 8 rfl (by kernel_rfl) (by rfl) ?_
    go_simp
    refine ⟨own_set (own_set (own_set hown2 hne1) hne1) hne1, ?_⟩
    refine whichever_next 9 rfl (by kernel_rfl) (by rfl) ?_
    go_simp
    refine ⟨own_set (own_set (own_set hown2 hne1) hne1) hne1, ?_⟩
    refine whichever_end (by kernel_rfl) ?_
    refine HK.out _ _ ?_
    obtain ⟨wF, hwF⟩ : ∃ wF, ((w2.setCell ⟨W.heap.size + 2, 0, none⟩ (.bool tw)).setCell ⟨W.heap.size + 2, 1, none⟩ nv).setCell ⟨W.heap.size + 2, 2, none⟩ dd = wF := ⟨_, rfl⟩
    have hBF : Below W0.heap.size W0 wF := by rw [← hwF]; exact ((hBW.setCell (p := ⟨W.heap.size + 2, 0, none⟩) hBl _).setCell (p := ⟨W.heap.size + 2, 1, none⟩) hBl _).setCell (p := ⟨W.heap.size + 2, 2, none⟩) hBl _
    have hzF : CellsAt wF (W.heap.size + 2) 3 (fun i => match i with | 0 => .bool tw | 1 => nv | _ => dd) := by
      rw [← hwF]
      refine cells_congr (((hcz.upd (i := 0) (v := .bool tw) (by omega)).upd (i := 1) (v := nv) (by omega)).upd (i := 2) (v := dd) (by omega)) fun i hi => match i, hi with | 0, _ => rfl | 1, _ => rfl | 2, _ => rfl
    rw [hwF]
    obtain ⟨B, hB⟩ : ∃ B, W.heap.size + 2 = B := ⟨_, rfl⟩
    rw [hB] at hzF hBl ⊢
    clear hwF s1 s2 z0 z1 z2 y0 y1 y2 hown2 hcz hcz1 hBW hb2 hown hS1 hb1' hact hw1
  all_goals
    have HM := Lib.hid mmust_any
    have HF := Lib.hid fine_any
    have HBF := Lib.hid hBF
    have HZF := Lib.hid hzF
    clear hBF hzF HK
    cases inn with
    | false =>
      have hz2 : z = 2 := by
        rw [← HZ.out]
        have : k < 1 ∨ 11 < k := by have := of_decide_eq_false hinn; omega
        unfold checkN
        rw [if_pos this]
      go_wp2_with (first
        | (go_at_call 40; refine (HM.out _ _ _).mono ?_; rintro e w9 ⟨rfl, rfl⟩))
      subst hz2
      exact ⟨rfl, CheckedR.bad (by decide) (hb0.trans (HBF.out.mono (by omega)))⟩
    | true =>
      go_wp2_with (first
        | (go_at_call 40; refine (HM.out _ _ _).mono ?_; rintro e w9 ⟨rfl, rfl⟩))
      refine (tnew_any w9).mono ?_
      rintro e w10 ⟨rfl, hg, hT, hb10⟩
      obtain ⟨T, hTe⟩ : ∃ T, w9.heap.size + 2 = T := ⟨_, rfl⟩
      obtain ⟨r, hre⟩ : ∃ r, w9.heap.size + 1 = r := ⟨_, rfl⟩
      obtain ⟨mm, hme⟩ : ∃ mm, w9.heap.size = mm := ⟨_, rfl⟩
      rw [hTe] at hT ⊢
      rw [hre] at hg hT
      rw [hme] at hg
      have hrs : (gNew r mm r).isSome = true := by rw [gNew_root]; rfl
      have hB10 : Below W0.heap.size W0 w10 := HBF.out.trans (hb10.mono HBF.out.size)
      have o1 : w10.cell? ⟨W.heap.size, 1, none⟩ = some (.string p) := (hB10.cell (p := ⟨W.heap.size, 1, none⟩) (by show W.heap.size < _; omega)).trans (HOP.out.1 1 (by omega))
      have o2 : w10.cell? ⟨W.heap.size, 2, none⟩ = some (.string d) := (hB10.cell (p := ⟨W.heap.size, 2, none⟩) (by show W.heap.size < _; omega)).trans (HOP.out.1 2 (by omega))
      have HZ10 : Hid (CellsAt w10 B 3 (fun i => match i with | 0 => .bool tw | 1 => nv | _ => dd)) := HZF.out.below hb10 (World.block_lt_of_cell? w9 ⟨B, 0, none⟩ (HZF.out.1 0 (by omega)))
      have HK1 := Lib.hid (kind_any (gNew r mm) T r p w10 hp hg hrs hT)
      have HG := Lib.hid hg
      have HT10 := Lib.hid hT
      have HB10 := Lib.hid hB10
      clear hg hT hB10 hb10 HZF
      rcases kindT_err r mm (bytesOf p) with ⟨hp1, hp2, hp3⟩ | ⟨hp1, hp2⟩
      · have hz2 : z = (readP (bytesOf p)).1 := by
          rw [← HZ.out]
          have : ¬ (k < 1 ∨ 11 < k) := by have := of_decide_eq_true hinn; omega
          unfold checkN
          rw [if_neg this, if_pos hp1]
        rw [hp2] at HK1
        generalize (kindT (gNew r mm) r (bytesOf p)).1 = kk at *
        generalize (readP (bytesOf p)).1 = ee at *
        have hq : ((ee != 170) && (ee != 160)) = false := by rcases hp3 with h | h <;> rw [h] <;> rfl
        rw [← hz2] at hq hp1 HK1 hp3
        clear hz2 hp2 HZ hq
        rcases hp3 with rfl | rfl
        all_goals
          have ix0 := two_0
          have ix1 := two_1
          go_wp2_with fail
          refine wp_loop_rounds 3 ?_
          rw [rounds_succ]
          go_wp2_with (first
            | (go_at_call 54; refine HK1.out.mono ?_; rintro e w11 ⟨rfl, hb11⟩)
            | (go_at_call 40; refine (HM.out _ _ _).mono ?_; rintro e w12 ⟨rfl, rfl⟩))
          exact ⟨rfl, CheckedR.bad hp1 (hb0.trans ((HB10.out.trans (hb11.mono HB10.out.size)).mono (by omega)))⟩
      · have hq1 : (((kindT (gNew r mm) r (bytesOf p)).2 != 170) && ((kindT (gNew r mm) r (bytesOf p)).2 != 160)) = true := by rcases hp2 with h | h <;> rw [h] <;> rfl
        have HK2 := Lib.hid (fun w hg hT => kind_any (gNew r mm) T r d w hd hg hrs hT)
        have hTl : T < w10.heap.size := World.block_lt_of_cell? w10 ⟨T, 0, none⟩ HT10.out
        have hBl10 : B < w10.heap.size := World.block_lt_of_cell? w10 ⟨B, 0, none⟩ (HZ10.out.1 0 (by omega))
        have hkr : ¬ (k < 1 ∨ 11 < k) := by have := of_decide_eq_true hinn; omega
        have ix0 := two_0
        have ix1 := two_1
        have hd2 := kindT_err r mm (bytesOf d)
        generalize kindT (gNew r mm) r (bytesOf p) = K1 at *
        generalize kindT (gNew r mm) r (bytesOf d) = K2 at *
        obtain ⟨kk1, e1⟩ := K1
        obtain ⟨kk2, e2⟩ := K2
        simp only at HK1 HK2 hq1 hd2 hp2
        have qa : (e1 != 170) = true := by rcases hp2 with h | h <;> rw [h] <;> rfl
        have qb : (e1 != 160) = true := by rcases hp2 with h | h <;> rw [h] <;> rfl
        have qc : (e1 == 170) = false := by rcases hp2 with h | h <;> rw [h] <;> rfl
        have qd : (e1 == 160) = false := by rcases hp2 with h | h <;> rw [h] <;> rfl
        clear hq1
        cases tw with
        | true =>
          have h89 : k = 8 ∨ k = 9 := of_decide_eq_true htw
          rcases hd2 with ⟨hd1, hd3, hd4⟩ | ⟨hd1, hd3⟩
          · clear hp2
            have hz2 : z = e2 := by
              rw [← HZ.out, hd3]
              unfold checkN
              rw [if_neg hkr, if_neg (by rw [hp1]; exact fun h => h rfl), if_pos ⟨h89, hd1⟩]
            have hne : e2 ≠ 0 := by rw [hd3]; exact hd1
            have hq2 : ((e2 != 170) && (e2 != 160)) = false := by rw [hd3]; rcases hd4 with h | h <;> rw [h] <;> rfl
            rw [← hd3, ← hz2] at hd4
            rw [← hz2] at hne HK2
            clear hq2 hd3 hz2 HZ hd1
            rcases hd4 with rfl | rfl
            all_goals
              go_wp2_with fail
              refine wp_loop_rounds 3 ?_
              rw [rounds_succ]
              go_wp2_with (first
                | (go_at_call 54; refine HK1.out.mono ?_; rintro e w11 ⟨rfl, hb11⟩)
                | (go_at_call 40; refine (HM.out _ _ _).mono ?_; rintro e w13 ⟨rfl, rfl⟩))
              clear HK1
              rw [rounds_succ]
              go_wp2_with fail
              refine (HK2.out _ (HG.out.below hb11) ((hb11.cell (p := ⟨T, 0, none⟩) hTl).trans HT10.out)).mono ?_
              rintro e w12 ⟨rfl, hb12⟩
              have hB12 : Below W0.heap.size W0 w12 := HB10.out.trans ((hb11.trans (hb12.mono hb11.size)).mono HB10.out.size)
              have HZ12 := Lib.hid (HZ10.out.below (hb11.trans (hb12.mono hb11.size)) hBl10)
              have HR12 := Lib.hid (HRS.out.below hB12 (by omega))
              have b0 : w12.cell? ⟨B, 0, none⟩ = some (.bool true) := HZ12.out.1 0 (by omega)
              have HB12 := Lib.hid (hb0.trans (hB12.mono (by omega)))
              clear hb11 hb12 hB12 HK2
              go_wp2_with (go_at_call 40; refine (HM.out _ _ _).mono ?_; rintro e w13 ⟨rfl, rfl⟩)
              exact ⟨rfl, CheckedR.bad hne HB12.out⟩
          ·
            have hnv0 : nv = .nilFunc := by rw [← hnv]; rcases h89 with rfl | rfl <;> rfl
            have hz2 : z = 0 := by
              rw [← HZ.out, checkN_pass hkr hp1 (fun h => h.2 hd1)]
              unfold numZ
              rw [if_neg (by omega), if_neg (by omega), if_neg (by omega)]
            have q2a : (e2 != 170) = true := by rcases hd3 with h | h <;> rw [h] <;> rfl
            have q2b : (e2 != 160) = true := by rcases hd3 with h | h <;> rw [h] <;> rfl
            have q2c : (e2 == 170) = false := by rcases hd3 with h | h <;> rw [h] <;> rfl
            have q2d : (e2 == 160) = false := by rcases hd3 with h | h <;> rw [h] <;> rfl
            clear hp2 hd3 hnc hnc1 hnv
            subst hnv0 hz2
            go_wp2_with fail
            refine wp_loop_rounds 3 ?_
            rw [rounds_succ]
            go_wp2_with (first
              | (go_at_call 54; refine HK1.out.mono ?_; rintro e w11 ⟨rfl, hb11⟩)
              | (go_at_call 40; refine (HM.out _ _ _).mono ?_; rintro e w13 ⟨rfl, rfl⟩))
            clear HK1
            rw [rounds_succ]
            go_wp2_with fail
            refine (HK2.out _ (HG.out.below hb11) ((hb11.cell (p := ⟨T, 0, none⟩) hTl).trans HT10.out)).mono ?_
            rintro e w12 ⟨rfl, hb12⟩
            have hB12 : Below W0.heap.size W0 w12 := HB10.out.trans ((hb11.trans (hb12.mono hb11.size)).mono HB10.out.size)
            have HZ12 := Lib.hid (HZ10.out.below (hb11.trans (hb12.mono hb11.size)) hBl10)
            have HR12 := Lib.hid (HRS.out.below hB12 (by omega))
            have HO12 := Lib.hid (HOP.out.below hB12 (by omega))
            have b0 : w12.cell? ⟨B, 0, none⟩ = some (.bool true) := HZ12.out.1 0 (by omega)
            have HB12 := Lib.hid (hb0.trans (hB12.mono (by omega)))
            clear hb11 hb12 hB12 HK2
            have hfn := fn_nil
            have b1 : w12.cell? ⟨B, 1, none⟩ = some (.nilFunc) := HZ12.out.1 1 (by omega)
            have b2 : w12.cell? ⟨B, 2, none⟩ = some dd := HZ12.out.1 2 (by omega)
            have x0 : w12.cell? ⟨W.heap.size + 1, 0, none⟩ = some (.bool false) := HR12.out.1 0 (by omega)
            have x1 : w12.cell? ⟨W.heap.size + 1, 1, none⟩ = some .nilFunc := HR12.out.1 1 (by omega)
            have x2 : w12.cell? ⟨W.heap.size + 1, 2, none⟩ = some .nilFunc := HR12.out.1 2 (by omega)
            have f0 : w12.frozen? ⟨W.heap.size + 1, 0, none⟩ = false := HR12.out.2 0
            have f1 : w12.frozen? ⟨W.heap.size + 1, 1, none⟩ = false := HR12.out.2 1
            have f2 : w12.frozen? ⟨W.heap.size + 1, 2, none⟩ = false := HR12.out.2 2
            have s2 := hdc.store (P := Tryz.prog) (q := ⟨W.heap.size + 1, 2, none⟩) (w := (w12.setCell ⟨W.heap.size + 1, 0, none⟩ (.bool true)).setCell ⟨W.heap.size + 1, 1, none⟩ (.nilFunc)) ((World.cell?_setCell_other _ _ _ _ (by intro e; injection e with _ e; cases e)).trans ((World.cell?_setCell_other _ _ _ _ (by intro e; injection e with _ e; cases e)).trans x2)) ((World.frozen?_setCell _ _ _ _).trans ((World.frozen?_setCell _ _ _ _).trans f2))
            have HFIN : Hid (CellsAt (((w12.setCell ⟨W.heap.size + 1, 0, none⟩ (.bool true)).setCell ⟨W.heap.size + 1, 1, none⟩ (.nilFunc)).setCell ⟨W.heap.size + 1, 2, none⟩ dd) (W.heap.size + 1) 3 (fun i => match i with | 0 => .bool true | 1 => .nilFunc | _ => dd)) :=
              cells_congr (((HR12.out.upd (i := 0) (v := .bool true) (by omega)).upd (i := 1) (v := .nilFunc) (by omega)).upd (i := 2) (v := dd) (by omega)) fun i hi => match i, hi with | 0, _ => rfl | 1, _ => rfl | 2, _ => rfl
            have HBF2 : Hid (Below W.heap.size W (((w12.setCell ⟨W.heap.size + 1, 0, none⟩ (.bool true)).setCell ⟨W.heap.size + 1, 1, none⟩ (.nilFunc)).setCell ⟨W.heap.size + 1, 2, none⟩ dd)) := ((HB12.out.setCell (p := ⟨W.heap.size + 1, 0, none⟩) (by show _ ≤ W.heap.size + 1; omega) _).setCell (p := ⟨W.heap.size + 1, 1, none⟩) (by show _ ≤ W.heap.size + 1; omega) _).setCell (p := ⟨W.heap.size + 1, 2, none⟩) (by show _ ≤ W.heap.size + 1; omega) _
            go_wp2_with (go_at_call 40; refine (HM.out _ _ _).mono ?_; rintro e w13 ⟨rfl, rfl⟩)
            rw [rounds_succ]
            go_wp2_with fail
            generalize ((w13.setCell ⟨W.heap.size + 1, 0, none⟩ (.bool true)).setCell ⟨W.heap.size + 1, 1, none⟩ (.nilFunc)).setCell ⟨W.heap.size + 1, 2, none⟩ dd = wE at *
            have z0 : wE.cell? ⟨W.heap.size + 1, 0, none⟩ = some (.bool true) := HFIN.out.1 0 (by omega)
            have z1 : wE.cell? ⟨W.heap.size + 1, 1, none⟩ = some (.nilFunc) := HFIN.out.1 1 (by omega)
            have z2 : wE.cell? ⟨W.heap.size + 1, 2, none⟩ = some dd := HFIN.out.1 2 (by omega)
            refine bodyPost_ret (v := .agg #[.bool true, .nilFunc, dd]) (by simp [results, Tryz.results34, go_sem, z0, z1, z2]) rfl (CheckedR.good rfl HBF2.out)
        | false =>
          clear hp2 hd2 hnc1
          have hnk : ¬ ((k = 8 ∨ k = 9) ∧ (readP (bytesOf d)).1 ≠ 0) := fun h => (of_decide_eq_false htw) h.1
          have hz2 : z = numZ k a n m := by rw [← HZ.out, checkN_pass hkr hp1 hnk]
          rcases num_ways k p d a n A m c bs hl hm ha hn with ⟨hv0, hz0⟩ | ⟨f, hv0, hent, hcall⟩
          · rw [hv0] at hnv
            rw [hz0] at hz2
            subst hnv hz2
            go_wp2_with fail
            refine wp_loop_rounds 3 ?_
            rw [rounds_succ]
            go_wp2_with (first
              | (go_at_call 54; refine HK1.out.mono ?_; rintro e w11 ⟨rfl, hb11⟩)
              | (go_at_call 40; refine (HM.out _ _ _).mono ?_; rintro e w13 ⟨rfl, rfl⟩))
            clear HK1
            rw [rounds_succ]
            go_wp2_with fail
            refine (HK2.out _ (HG.out.below hb11) ((hb11.cell (p := ⟨T, 0, none⟩) hTl).trans HT10.out)).mono ?_
            rintro e w12 ⟨rfl, hb12⟩
            have hB12 : Below W0.heap.size W0 w12 := HB10.out.trans ((hb11.trans (hb12.mono hb11.size)).mono HB10.out.size)
            have HZ12 := Lib.hid (HZ10.out.below (hb11.trans (hb12.mono hb11.size)) hBl10)
            have HR12 := Lib.hid (HRS.out.below hB12 (by omega))
            have HO12 := Lib.hid (HOP.out.below hB12 (by omega))
            have b0 : w12.cell? ⟨B, 0, none⟩ = some (.bool false) := HZ12.out.1 0 (by omega)
            have HB12 := Lib.hid (hb0.trans (hB12.mono (by omega)))
            clear hb11 hb12 hB12 HK2
            have hfn := fn_nil
            have b1 : w12.cell? ⟨B, 1, none⟩ = some (.nilFunc) := HZ12.out.1 1 (by omega)
            have b2 : w12.cell? ⟨B, 2, none⟩ = some dd := HZ12.out.1 2 (by omega)
            have x0 : w12.cell? ⟨W.heap.size + 1, 0, none⟩ = some (.bool false) := HR12.out.1 0 (by omega)
            have x1 : w12.cell? ⟨W.heap.size + 1, 1, none⟩ = some .nilFunc := HR12.out.1 1 (by omega)
            have x2 : w12.cell? ⟨W.heap.size + 1, 2, none⟩ = some .nilFunc := HR12.out.1 2 (by omega)
            have f0 : w12.frozen? ⟨W.heap.size + 1, 0, none⟩ = false := HR12.out.2 0
            have f1 : w12.frozen? ⟨W.heap.size + 1, 1, none⟩ = false := HR12.out.2 1
            have f2 : w12.frozen? ⟨W.heap.size + 1, 2, none⟩ = false := HR12.out.2 2
            have s2 := hdc.store (P := Tryz.prog) (q := ⟨W.heap.size + 1, 2, none⟩) (w := (w12.setCell ⟨W.heap.size + 1, 0, none⟩ (.bool false)).setCell ⟨W.heap.size + 1, 1, none⟩ (.nilFunc)) ((World.cell?_setCell_other _ _ _ _ (by intro e; injection e with _ e; cases e)).trans ((World.cell?_setCell_other _ _ _ _ (by intro e; injection e with _ e; cases e)).trans x2)) ((World.frozen?_setCell _ _ _ _).trans ((World.frozen?_setCell _ _ _ _).trans f2))
            have HFIN : Hid (CellsAt (((w12.setCell ⟨W.heap.size + 1, 0, none⟩ (.bool false)).setCell ⟨W.heap.size + 1, 1, none⟩ (.nilFunc)).setCell ⟨W.heap.size + 1, 2, none⟩ dd) (W.heap.size + 1) 3 (fun i => match i with | 0 => .bool false | 1 => .nilFunc | _ => dd)) :=
              cells_congr (((HR12.out.upd (i := 0) (v := .bool false) (by omega)).upd (i := 1) (v := .nilFunc) (by omega)).upd (i := 2) (v := dd) (by omega)) fun i hi => match i, hi with | 0, _ => rfl | 1, _ => rfl | 2, _ => rfl
            have HBF2 : Hid (Below W.heap.size W (((w12.setCell ⟨W.heap.size + 1, 0, none⟩ (.bool false)).setCell ⟨W.heap.size + 1, 1, none⟩ (.nilFunc)).setCell ⟨W.heap.size + 1, 2, none⟩ dd)) := ((HB12.out.setCell (p := ⟨W.heap.size + 1, 0, none⟩) (by show _ ≤ W.heap.size + 1; omega) _).setCell (p := ⟨W.heap.size + 1, 1, none⟩) (by show _ ≤ W.heap.size + 1; omega) _).setCell (p := ⟨W.heap.size + 1, 2, none⟩) (by show _ ≤ W.heap.size + 1; omega) _
            go_wp2_with fail
            rw [rounds_succ]
            go_wp2_with fail
            generalize ((w12.setCell ⟨W.heap.size + 1, 0, none⟩ (.bool false)).setCell ⟨W.heap.size + 1, 1, none⟩ (.nilFunc)).setCell ⟨W.heap.size + 1, 2, none⟩ dd = wE at *
            have z0 : wE.cell? ⟨W.heap.size + 1, 0, none⟩ = some (.bool false) := HFIN.out.1 0 (by omega)
            have z1 : wE.cell? ⟨W.heap.size + 1, 1, none⟩ = some (.nilFunc) := HFIN.out.1 1 (by omega)
            have z2 : wE.cell? ⟨W.heap.size + 1, 2, none⟩ = some dd := HFIN.out.1 2 (by omega)
            refine bodyPost_ret (v := .agg #[.bool false, .nilFunc, dd]) (by simp [results, Tryz.results34, go_sem, z0, z1, z2]) rfl (CheckedR.good rfl HBF2.out)
          · rw [hv0] at hnv
            subst hnv
            go_wp2_with fail
            refine wp_loop_rounds 3 ?_
            rw [rounds_succ]
            go_wp2_with (first
              | (go_at_call 54; refine HK1.out.mono ?_; rintro e w11 ⟨rfl, hb11⟩)
              | (go_at_call 40; refine (HM.out _ _ _).mono ?_; rintro e w13 ⟨rfl, rfl⟩))
            clear HK1
            rw [rounds_succ]
            go_wp2_with fail
            refine (HK2.out _ (HG.out.below hb11) ((hb11.cell (p := ⟨T, 0, none⟩) hTl).trans HT10.out)).mono ?_
            rintro e w12 ⟨rfl, hb12⟩
            have hB12 : Below W0.heap.size W0 w12 := HB10.out.trans ((hb11.trans (hb12.mono hb11.size)).mono HB10.out.size)
            have HZ12 := Lib.hid (HZ10.out.below (hb11.trans (hb12.mono hb11.size)) hBl10)
            have HR12 := Lib.hid (HRS.out.below hB12 (by omega))
            have HO12 := Lib.hid (HOP.out.below hB12 (by omega))
            have b0 : w12.cell? ⟨B, 0, none⟩ = some (.bool false) := HZ12.out.1 0 (by omega)
            have HB12 := Lib.hid (hb0.trans (hB12.mono (by omega)))
            clear hb11 hb12 hB12 HK2
            have hfn := fn_is
            have HROW12 := Lib.hid (hrow.below HB12.out)
            have HCALL := Lib.hid (hcall _ HROW12.out)
            have HENT := hent
            clear hcall hent
            have b1 : w12.cell? ⟨B, 1, none⟩ = some (.func (.func f) #[] #[]) := HZ12.out.1 1 (by omega)
            have c0 : w12.cell? ⟨W.heap.size, 0, none⟩ = some (.int .i64 k) := HO12.out.1 0 (by omega)
            have c1 : w12.cell? ⟨W.heap.size, 1, none⟩ = some (.string p) := HO12.out.1 1 (by omega)
            have c2 : w12.cell? ⟨W.heap.size, 2, none⟩ = some (.string d) := HO12.out.1 2 (by omega)
            have c3 : w12.cell? ⟨W.heap.size, 3, none⟩ = some (.int .i64 a) := HO12.out.1 3 (by omega)
            have c4 : w12.cell? ⟨W.heap.size, 4, none⟩ = some (.int .i64 n) := HO12.out.1 4 (by omega)
            have c5 : w12.cell? ⟨W.heap.size, 5, none⟩ = some (.slice A m c) := HO12.out.1 5 (by omega)
            go_wp2_with fail
            rw [rounds_succ]
            unfold opV at HCALL
            go_wp2_with fail
            refine HCALL.out.mono ?_
            rintro e w14 ⟨rfl, hb14⟩
            rw [← hz2]
            have HZ12 := Lib.hid (HZ12.out.below hb14 (World.block_lt_of_cell? w12 ⟨B, 0, none⟩ (HZ12.out.1 0 (by omega))))
            have HR12 := Lib.hid (HR12.out.below hb14 (World.block_lt_of_cell? w12 ⟨W.heap.size + 1, 0, none⟩ (HR12.out.1 0 (by omega))))
            have HB12 := Lib.hid (HB12.out.trans (hb14.mono HB12.out.size))
            clear hb14 b0 b1 c0 c1 c2 c3 c4 c5
            have b0 : w14.cell? ⟨B, 0, none⟩ = some (.bool false) := HZ12.out.1 0 (by omega)
            have b1 : w14.cell? ⟨B, 1, none⟩ = some (.func (.func f) #[] #[]) := HZ12.out.1 1 (by omega)
            have b2 : w14.cell? ⟨B, 2, none⟩ = some dd := HZ12.out.1 2 (by omega)
            have x0 : w14.cell? ⟨W.heap.size + 1, 0, none⟩ = some (.bool false) := HR12.out.1 0 (by omega)
            have x1 : w14.cell? ⟨W.heap.size + 1, 1, none⟩ = some .nilFunc := HR12.out.1 1 (by omega)
            have x2 : w14.cell? ⟨W.heap.size + 1, 2, none⟩ = some .nilFunc := HR12.out.1 2 (by omega)
            have f0 : w14.frozen? ⟨W.heap.size + 1, 0, none⟩ = false := HR12.out.2 0
            have f1 : w14.frozen? ⟨W.heap.size + 1, 1, none⟩ = false := HR12.out.2 1
            have f2 : w14.frozen? ⟨W.heap.size + 1, 2, none⟩ = false := HR12.out.2 2
            have s2 := hdc.store (P := Tryz.prog) (q := ⟨W.heap.size + 1, 2, none⟩) (w := (w14.setCell ⟨W.heap.size + 1, 0, none⟩ (.bool false)).setCell ⟨W.heap.size + 1, 1, none⟩ (.func (.func f) #[] #[])) ((World.cell?_setCell_other _ _ _ _ (by intro e; injection e with _ e; cases e)).trans ((World.cell?_setCell_other _ _ _ _ (by intro e; injection e with _ e; cases e)).trans x2)) ((World.frozen?_setCell _ _ _ _).trans ((World.frozen?_setCell _ _ _ _).trans f2))
            have HFIN : Hid (CellsAt (((w14.setCell ⟨W.heap.size + 1, 0, none⟩ (.bool false)).setCell ⟨W.heap.size + 1, 1, none⟩ (.func (.func f) #[] #[])).setCell ⟨W.heap.size + 1, 2, none⟩ dd) (W.heap.size + 1) 3 (fun i => match i with | 0 => .bool false | 1 => .func (.func f) #[] #[] | _ => dd)) :=
              cells_congr (((HR12.out.upd (i := 0) (v := .bool false) (by omega)).upd (i := 1) (v := .func (.func f) #[] #[]) (by omega)).upd (i := 2) (v := dd) (by omega)) fun i hi => match i, hi with | 0, _ => rfl | 1, _ => rfl | 2, _ => rfl
            have HBF2 : Hid (Below W.heap.size W (((w14.setCell ⟨W.heap.size + 1, 0, none⟩ (.bool false)).setCell ⟨W.heap.size + 1, 1, none⟩ (.func (.func f) #[] #[])).setCell ⟨W.heap.size + 1, 2, none⟩ dd)) := ((HB12.out.setCell (p := ⟨W.heap.size + 1, 0, none⟩) (by show _ ≤ W.heap.size + 1; omega) _).setCell (p := ⟨W.heap.size + 1, 1, none⟩) (by show _ ≤ W.heap.size + 1; omega) _).setCell (p := ⟨W.heap.size + 1, 2, none⟩) (by show _ ≤ W.heap.size + 1; omega) _
            have HF0 := Lib.hid (HF.out z)
            clear hz2 HZ
            by_cases hz : z = 0
            · rw [if_pos hz] at HF0
              subst hz
              go_wp2_with (go_at_call 55; refine (HF0.out _).mono ?_; rintro e w15 ⟨rfl, rfl⟩)
              generalize ((w15.setCell ⟨W.heap.size + 1, 0, none⟩ (.bool false)).setCell ⟨W.heap.size + 1, 1, none⟩ (.func (.func f) #[] #[])).setCell ⟨W.heap.size + 1, 2, none⟩ dd = wE at *
              have z0 : wE.cell? ⟨W.heap.size + 1, 0, none⟩ = some (.bool false) := HFIN.out.1 0 (by omega)
              have z1 : wE.cell? ⟨W.heap.size + 1, 1, none⟩ = some (.func (.func f) #[] #[]) := HFIN.out.1 1 (by omega)
              have z2 : wE.cell? ⟨W.heap.size + 1, 2, none⟩ = some dd := HFIN.out.1 2 (by omega)
              refine bodyPost_ret (v := .agg #[.bool false, .func (.func f) #[] #[], dd]) (by simp [results, Tryz.results34, go_sem, z0, z1, z2]) rfl (CheckedR.good rfl HBF2.out)
            · rw [if_neg hz] at HF0
              go_wp2_with (go_at_call 55; refine (HF0.out _).mono ?_; rintro e w15 ⟨rfl, rfl⟩)
              exact ⟨rfl, CheckedR.bad hz HB12.out⟩
end Go.Proofs.YtibpagmpdgflmaaGreatDoor

namespace Go.Proofs.YtibpagmpdgflmaaGreatDoor
open Go.RowKit Go.Maps
attribute [local go_sem] Oper.semAt_some

set_option maxRecDepth 100000 in
set_option maxHeartbeats 4000000 in
theorem mcheck_any (k : Int) (p d : ByteArray) (a n : Int) (A : Option Addr) (m c : Nat) (bs : List UInt8) (W : World) (hk64 : -9223372036854775808 ≤ k ∧ k < 9223372036854775808) (hp : p.size < 4294967281) (hd : d.size < 4294967281) (hl : bs.length = m) (hm : m ≤ maxLen) (hrow : RowAt W A (bs.map encB)) (ha : a < 9223372036854775808) (hn : n < 9223372036854775808) :
    Calls Tryz.prog 15 #[opV k p d a n A m c] W fun e W' => e = .returned (.int .i64 (checkN k (bytesOf p) (bytesOf d) a n m)) ∧ Below W.heap.size W W' := by
  have hmf : ∀ (fn : Fn) (first cap : Array Value) (w : World), (Instr.makeFunc fn first cap).run Tryz.prog w = .ok (.func fn first cap) w := fun _ _ _ _ => rfl
  obtain ⟨W0, hW0⟩ : ∃ W0, (W.alloc (.cells #[.int .i64 k, .string p, .string d, .int .i64 a, .int .i64 n, .slice A m c] 32)).alloc (.cells #[.int .i64 0] 22) = W0 := ⟨_, rfl⟩
  have hb0 : Below W.heap.size W W0 := by rw [← hW0]; exact ((Below.refl _ _).alloc (Nat.le_refl _) _).alloc (by simp) _
  have hs0 : W0.heap.size = W.heap.size + 2 := by rw [← hW0]; simp
  have HCE : Hid (CellsAt W0 (W.heap.size + 1) 1 (fun _ => .int .i64 0)) := by
    rw [Hid, ← hW0]
    have := cellsAt_new (W.alloc (.cells #[.int .i64 k, .string p, .string d, .int .i64 a, .int .i64 n, .slice A m c] 32)) #[.int .i64 0] 22 1 (fun _ => .int .i64 0) fun i hi => by rw [show i = 0 from by omega]; rfl
    rw [show (W.alloc (.cells #[.int .i64 k, .string p, .string d, .int .i64 a, .int .i64 n, .slice A m c] 32)).heap.size = W.heap.size + 1 from by simp] at this
    exact this
  have hck := checked_any k p d a n A m c bs W0 hk64 hp hd hl hm (hrow.below hb0) ha hn
  obtain ⟨z, hz⟩ : ∃ z, checkN k (bytesOf p) (bytesOf d) a n m = z := ⟨_, rfl⟩
  rw [hz] at hck ⊢
  have HCK := Lib.hid hck
  have HB0 := Lib.hid hb0
  have HW0 := Lib.hid hW0
  clear hck hb0 hW0 hz hrow hl
  unfold opV at HCK ⊢
  go_enter_defers Tryz.func15, Tryz.ntmps15
  by_cases hz : z = 0
  · go_wp2_with (first
      | (go_at_call 34; rw [HW0.out]; refine HCK.out.mono ?_; rintro e w2 ⟨he, hb2⟩; rw [if_pos hz] at he; obtain ⟨v, rfl⟩ := he; have hE := HCE.out.below hb2 (by omega); have e0 := hE.1 0 (by omega); have e1 := hE.2 0))
    refine leaves_cons (f := 32) (args := #[.pointer (some ⟨W.heap.size + 1, 0, none⟩), .func (.func 33) #[] #[]]) (by simp) (by simp [go_sem]) ?_
    refine (model_catches.idle _ _ _).mono ?_
    rintro e u' w6 ⟨rfl, rfl, rfl⟩
    have e3 : (w2.setCell ⟨W.heap.size + 1, 0, none⟩ (.int .i64 0)).cell? ⟨W.heap.size + 1, 0, none⟩ = some (.int .i64 0) := World.cell?_setCell_same' _ _ _ (by rw [e0]; rfl)
    have b3 : Below W.heap.size W (w2.setCell ⟨W.heap.size + 1, 0, none⟩ (.int .i64 0)) := (HB0.out.trans (hb2.mono (by omega))).setCell (by show W.heap.size ≤ W.heap.size + 1; omega) _
    generalize w2.setCell ⟨W.heap.size + 1, 0, none⟩ (.int .i64 0) = w6 at *
    simp [Leaves, settle, results, Tryz.results15, go_sem, e3]
    exact ⟨hz.symm, b3⟩
  · go_wp2_with (first
      | (go_at_call 34; rw [HW0.out]; refine HCK.out.mono ?_; rintro e w2 ⟨he, hb2⟩; rw [if_neg hz] at he; subst he))
    have hE := HCE.out.below hb2 (by omega)
    refine leaves_cons (f := 32) (args := #[.pointer (some ⟨W.heap.size + 1, 0, none⟩), .func (.func 33) #[] #[]]) (by simp) (by simp [go_sem]) ?_
    refine (model_catches.err (W.heap.size + 1) 33 #[] z [] _ _ w2 (hE.1 0 (by omega)) (hE.2 0) (enters_of Tryz.func33 (by kernel_rfl) rfl _) (check1_any _)).mono ?_
    rintro e u' w5 ⟨rfl, rfl, rfl⟩
    have e3 : (w2.setCell ⟨W.heap.size + 1, 0, none⟩ (.int .i64 z)).cell? ⟨W.heap.size + 1, 0, none⟩ = some (.int .i64 z) := World.cell?_setCell_same' _ _ _ (by rw [hE.1 0 (by omega)]; rfl)
    have b3 : Below W.heap.size W (w2.setCell ⟨W.heap.size + 1, 0, none⟩ (.int .i64 z)) := (HB0.out.trans (hb2.mono (by omega))).setCell (by show W.heap.size ≤ W.heap.size + 1; omega) _
    generalize w2.setCell ⟨W.heap.size + 1, 0, none⟩ (.int .i64 z) = w6 at *
    simp [Leaves, settle, results, Tryz.results15, go_sem, e3]
    exact b3
theorem asks_any (k : Int) (W : World) : Calls Tryz.prog 17 #[.int .i64 k] W fun e W' => e = .returned (.bool (decide (1 ≤ k ∧ k ≤ 3))) ∧ W' = W := by
  by_cases h1 : 1 ≤ k
  · by_cases h2 : k ≤ 3
    · rw [decide_eq_true (show 1 ≤ k ∧ k ≤ 3 from ⟨h1, h2⟩)]
      go_enter Tryz.func17, Tryz.ntmps17
      go_wp2
      go_ret
      exact ⟨rfl, rfl⟩
    · rw [decide_eq_false (show ¬ (1 ≤ k ∧ k ≤ 3) from fun h => h2 h.2)]
      have h3 : decide (k ≤ 3) = false := decide_eq_false h2
      go_enter Tryz.func17, Tryz.ntmps17
      go_wp2
      go_ret
      exact ⟨rfl, rfl⟩
  · rw [decide_eq_false (show ¬ (1 ≤ k ∧ k ≤ 3) from fun h => h1 h.1)]
    have h3 : decide (1 ≤ k) = false := decide_eq_false h1
    go_enter Tryz.func17, Tryz.ntmps17
    go_wp2
    go_ret
    exact ⟨rfl, rfl⟩
end Go.Proofs.YtibpagmpdgflmaaGreatDoor
