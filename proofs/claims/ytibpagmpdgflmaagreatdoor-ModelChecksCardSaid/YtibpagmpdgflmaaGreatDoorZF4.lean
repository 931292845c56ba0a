/- The contract of file.Write at nil. Contracts of what the model asks of an operation's numbers. Conditions: none. -/
import Derived.Test.YtibpagmpdgflmaaGreatDoorZF2
import Derived.Laws.IdiomCopy
namespace Go.Proofs.YtibpagmpdgflmaaGreatDoor
open Go.RowKit
attribute [local go_sem] Oper.semAt_some

/-- A copy whose outcome is known. -/
theorem wpList_copy_known {P : Program} {ops : Array Oper} {rest : List Oper} {o : Oper} {a : Act} {w : World} {Q : Exit → Act → World → Prop} (hgd : o.guard = none) (s x : Operand) (t u : TypeId)
    (ho : o.op = .call { callee := .builtin .copy, args := #[s, x], argTypes := #[t, u] }) (vs vx v : Value) (w' : World) (hs : a.eval s = vs) (hx : a.eval x = vx) (hr : ∀ ty, (Builtin.copy_ #[t, u] ty #[vs, vx]).run P w = .ok v w')
    (h : wpList P ops Q rest (a.put o.dst v) w') : wpList P ops Q (o :: rest) a w := by
  refine wpList_plain hgd fun _ hK => ?_
  unfold Oper.wp execOp
  simp only [ho, resolve, invoke, builtin, Sem.run_bind, Sem.run_pure, Result.andThen_ok, List.map_toArray, List.map_cons, List.map_nil, hs, hx, hr]
  exact hK _ _ h
theorem below_setCells {n g : Nat} {W : World} (hg : n ≤ g) : ∀ (vs : List Value) (o : Nat) (W' : World), Below n W W' → Below n W (W'.setCells g o vs)
  | [], _, _, h => h
  | v :: r, o, W', h => below_setCells hg r (o + 1) _ (h.setCell (p := ⟨g, o, none⟩) hg v)
/-- Write's error at nil. -/
def writeN (a : Int) (bl : Nat) : Int := if a < 0 then 2 else if 448 < a ∨ 448 < a + bl then 190 else 0
set_option maxRecDepth 100000 in
set_option maxHeartbeats 4000000 in
theorem write_nil (a : Int) (bl c : Nat) (A : Option Addr) (bs : List UInt8) (W : World) (hl : bs.length = bl) (hbl : bl ≤ maxLen) (hrow : RowAt W A (bs.map encB)) :
    Calls Tryz.prog 105 #[.slice none 0 0, .int .i64 a, .slice A bl c] W fun e W' => (∃ v, e = .returned (.tuple #[v, .int .i64 (writeN a bl)])) ∧ Below W.heap.size W W' := by
  have HBG := Lib.hid (begun_nil W)
  have hmf : ∀ (fn : Fn) (first cap : Array Value) (w : World), (Instr.makeFunc fn first cap).run Tryz.prog w = .ok (.func fn first cap) w := fun _ _ _ _ => rfl
  have hbl2 : (bl : Int) ≤ 9223372036854775807 := by unfold maxLen at hbl; omega
  by_cases h1 : a < 0
  · have e1 : writeN a bl = 2 := by unfold writeN; rw [if_pos h1]
    rw [e1]
    have hd : decide (a < 0) = true := decide_eq_true h1
    go_enter Tryz.func105, Tryz.ntmps105
    go_wp2_with fail
    refine wp_scope_fwd 1 ?_
    go_wp2_with (first | go_step3 | (go_at_call 154; refine HBG.out.mono ?_; rintro e w2 ⟨rfl, hc, hs, hb⟩; have hcx := hc.1 0 (by omega)))
    refine fwd_goto _ rfl ?_
    go_wp2_with go_step3
    rw [fwd_ret]
    refine bodyPost_ret (v := .tuple #[.slice none 0 0, .int .i64 2]) (by simp [results, Tryz.results105, go_sem]) rfl ?_
    exact ⟨⟨_, rfl⟩, hb⟩
  · have hd : decide (a < 0) = false := decide_eq_false h1
    obtain ⟨k, rfl⟩ : ∃ k : Nat, a = k := ⟨a.toNat, by omega⟩
    by_cases h2 : 448 < k ∨ 448 < bl
    · have e1 : writeN k bl = 190 := by unfold writeN; rw [if_neg h1, if_pos (by omega)]
      rw [e1]
      have hq : (![0, (k : Int), (bl : Int)].any fun x => decide (448 < x)) = false := by simp; omega
      have HF : Hid (∀ w : World, w.heap.size = W.heap.size + 1 → Calls Tryz.prog 156 #[.slice (some ⟨W.heap.size + 1, 0, none⟩) 3 3] (w.alloc (.cells #[.int .i64 0, .int .i64 k, .int .i64 bl] 3)) fun e w3 => e = .returned (.bool false) ∧ Below (W.heap.size + 2) (w.alloc (.cells #[.int .i64 0, .int .i64 k, .int .i64 bl] 3)) w3) := fun w hw => by
        have := fitsL_any [0, (k : Int), (bl : Int)] 3 (W.heap.size + 1) (w.alloc (.cells #[.int .i64 0, .int .i64 k, .int .i64 bl] 3)) rfl (by omega) (fun j x hj => by
          rw [← hw]
          match j, hj with
          | 0, hj => cases hj; exact cell_new _ _ _ 0 _ rfl
          | 1, hj => cases hj; exact cell_new _ _ _ 1 _ rfl
          | 2, hj => cases hj; exact cell_new _ _ _ 2 _ rfl)
        rw [hq, show (w.alloc (.cells #[.int .i64 0, .int .i64 k, .int .i64 bl] 3)).heap.size = W.heap.size + 2 from by simp; omega] at this
        exact this
      go_enter Tryz.func105, Tryz.ntmps105
      go_wp2_with fail
      refine wp_scope_fwd 1 ?_
      go_wp2_with (first
        | go_step3
        | (go_at_call 154; refine HBG.out.mono ?_; rintro e w2 ⟨rfl, hc, hs, hb⟩; have hcx := hc.1 0 (by omega))
        | (go_at_call 156; refine (HF.out _ hs).mono ?_; rintro e w3 ⟨rfl, hb3⟩))
      refine fwd_goto _ rfl ?_
      go_wp2_with go_step3
      rw [fwd_ret]
      refine bodyPost_ret (v := .tuple #[.slice none 0 0, .int .i64 190]) (by simp [results, Tryz.results105, go_sem]) rfl ?_
      exact ⟨⟨_, rfl⟩, hb.trans (((Below.refl w2.heap.size w2).alloc (Nat.le_refl _) _).trans (hb3.mono (by omega)) |>.mono (by omega))⟩
    · have hq : (![0, (k : Int), (bl : Int)].any fun x => decide (448 < x)) = true := by simp; omega
      have HF : Hid (∀ w : World, w.heap.size = W.heap.size + 1 → Calls Tryz.prog 156 #[.slice (some ⟨W.heap.size + 1, 0, none⟩) 3 3] (w.alloc (.cells #[.int .i64 0, .int .i64 k, .int .i64 bl] 3)) fun e w3 => e = .returned (.bool true) ∧ Below (W.heap.size + 2) (w.alloc (.cells #[.int .i64 0, .int .i64 k, .int .i64 bl] 3)) w3) := fun w hw => by
        have := fitsL_any [0, (k : Int), (bl : Int)] 3 (W.heap.size + 1) (w.alloc (.cells #[.int .i64 0, .int .i64 k, .int .i64 bl] 3)) rfl (by omega) (fun j x hj => by
          rw [← hw]
          match j, hj with
          | 0, hj => cases hj; exact cell_new _ _ _ 0 _ rfl
          | 1, hj => cases hj; exact cell_new _ _ _ 1 _ rfl
          | 2, hj => cases hj; exact cell_new _ _ _ 2 _ rfl)
        rw [hq, show (w.alloc (.cells #[.int .i64 0, .int .i64 k, .int .i64 bl] 3)).heap.size = W.heap.size + 2 from by simp; omega] at this
        exact this
      by_cases h3 : 448 < k + bl
      · have e1 : writeN k bl = 190 := by unfold writeN; rw [if_neg h1, if_pos (by omega)]
        rw [e1]
        have hq1 : (![(k : Int) + (bl : Int)].any fun x => decide (448 < x)) = false := by simp; omega
        have HF1 : Hid (∀ w : World, Calls Tryz.prog 156 #[.slice (some ⟨w.heap.size, 0, none⟩) 1 1] (w.alloc (.cells #[.int .i64 ((k : Int) + (bl : Int))] 3)) fun e w3 => e = .returned (.bool false) ∧ Below (w.heap.size + 1) (w.alloc (.cells #[.int .i64 ((k : Int) + (bl : Int))] 3)) w3) := fun w => by
          have := fitsL_any [(k : Int) + (bl : Int)] 1 w.heap.size (w.alloc (.cells #[.int .i64 ((k : Int) + (bl : Int))] 3)) rfl (by omega) (fun j x hj => by
            match j, hj with
            | 0, hj => cases hj; exact cell_new _ _ _ 0 _ rfl)
          rw [hq1, show (w.alloc (.cells #[.int .i64 ((k : Int) + (bl : Int))] 3)).heap.size = w.heap.size + 1 from by simp] at this
          exact this
        go_enter Tryz.func105, Tryz.ntmps105
        go_wp2_with fail
        refine wp_scope_fwd 1 ?_
        go_wp2_with (first
          | go_step3
          | (go_at_call 154; refine HBG.out.mono ?_; rintro e w2 ⟨rfl, hc, hs, hb⟩; have hcx := hc.1 0 (by omega))
          | (go_at_call 156; refine (HF.out _ hs).mono ?_; rintro e w3 ⟨rfl, hb3⟩)
          | (go_at_call 156; refine (HF1.out _).mono ?_; rintro e w4 ⟨rfl, hb4⟩))
        refine fwd_goto _ rfl ?_
        go_wp2_with go_step3
        rw [fwd_ret]
        refine bodyPost_ret (v := .tuple #[.slice none 0 0, .int .i64 190]) (by simp [results, Tryz.results105, go_sem]) rfl ?_
        have hs3 := hb3.size
        simp only [World.alloc, Array.size_push] at hs3
        refine ⟨⟨_, rfl⟩, hb.trans ?_⟩
        exact ((Below.refl W.heap.size w2).alloc (by omega) _).trans ((hb3.mono (by omega)).trans (((Below.refl W.heap.size w3).alloc (by omega) _).trans (hb4.mono (by omega))))
      · have e1 : writeN k bl = 0 := by unfold writeN; rw [if_neg h1, if_neg (by omega)]
        rw [e1]
        have hq1 : (![(k : Int) + (bl : Int)].any fun x => decide (448 < x)) = true := by simp; omega
        have HF1 : Hid (∀ w : World, Calls Tryz.prog 156 #[.slice (some ⟨w.heap.size, 0, none⟩) 1 1] (w.alloc (.cells #[.int .i64 ((k : Int) + (bl : Int))] 3)) fun e w3 => e = .returned (.bool true) ∧ Below (w.heap.size + 1) (w.alloc (.cells #[.int .i64 ((k : Int) + (bl : Int))] 3)) w3) := fun w => by
          have := fitsL_any [(k : Int) + (bl : Int)] 1 w.heap.size (w.alloc (.cells #[.int .i64 ((k : Int) + (bl : Int))] 3)) rfl (by omega) (fun j x hj => by
            match j, hj with
            | 0, hj => cases hj; exact cell_new _ _ _ 0 _ rfl)
          rw [hq1, show (w.alloc (.cells #[.int .i64 ((k : Int) + (bl : Int))] 3)).heap.size = w.heap.size + 1 from by simp] at this
          exact this
        by_cases h0 : bl = 0
        · subst h0
          go_enter Tryz.func105, Tryz.ntmps105
          go_wp2_with fail
          refine wp_scope_fwd 1 ?_
          go_wp2_with (first
            | go_step3
            | (go_at_call 154; refine HBG.out.mono ?_; rintro e w2 ⟨rfl, hc, hs, hb⟩; have hcx := hc.1 0 (by omega))
            | (go_at_call 156; refine (HF.out _ hs).mono ?_; rintro e w3 ⟨rfl, hb3⟩; have hc3 := hc.below (m := W.heap.size + 1) (((Below.refl _ w2).alloc (by omega) _).trans (hb3.mono (by omega))) (by omega); have hs3 := hb3.size; have hB3 : Below W.heap.size W w3 := hb.trans (((Below.refl W.heap.size w2).alloc (by omega) _).trans (hb3.mono (by omega))))
            | (go_at_call 156; refine (HF1.out _).mono ?_; rintro e w4 ⟨rfl, hb4⟩; have hc4 := hc3.below (m := W.heap.size + 1) (((Below.refl _ w3).alloc (by simp only [World.alloc, Array.size_push] at hs3; omega) _).trans (hb4.mono (by simp only [World.alloc, Array.size_push] at hs3; omega))) (by omega); have hcx4 := hc4.1 0 (by omega); have hB4 : Below W.heap.size W w4 := hB3.trans (((Below.refl W.heap.size w3).alloc (by simp only [World.alloc, Array.size_push] at hs3; omega) _).trans (hb4.mono (by simp only [World.alloc, Array.size_push] at hs3; omega)))))
          rw [fwd_ret]
          refine bodyPost_ret (v := .tuple #[.slice none 0 0, .int .i64 0]) (by simp [results, Tryz.results105, go_sem]) rfl ?_
          exact ⟨⟨_, rfl⟩, hB4⟩
        · have hpos : 0 < (bl : Int) := by omega
          obtain ⟨b, off, hA, hbW, hcs⟩ := hrow (by rw [List.length_map]; omega)
          subst hA
          have HRC : Hid (∀ w, CellsAt w W.heap.size 1 (fun _ => .slice none 0 0) → Calls Tryz.prog 155 #[.pointer (some ⟨W.heap.size, 0, none⟩), .int .i64 ((k : Int) + (bl : Int))] w fun e W' => e = .returned (.tuple #[]) ∧ DataAt W' W.heap.size (k + bl) w.heap.size ∧ (∀ B, B ≤ W.heap.size → Below B w W') ∧ w.heap.size ≤ W'.heap.size) := fun w hc => by
            have := reach_any W.heap.size (k + bl) w (by omega) hc
            rw [show ((k + bl : Nat) : Int) = (k : Int) + (bl : Int) from by omega] at this
            exact this
          go_enter Tryz.func105, Tryz.ntmps105
          go_wp2_with fail
          refine wp_scope_fwd 1 ?_
          go_wp2_with (first
            | go_step3
            | (go_at_call 154; refine HBG.out.mono ?_; rintro e w2 ⟨rfl, hc, hs, hb⟩; have hcx := hc.1 0 (by omega))
            | (go_at_call 156; refine (HF.out _ hs).mono ?_; rintro e w3 ⟨rfl, hb3⟩; have hc3 := hc.below (m := W.heap.size + 1) (((Below.refl _ w2).alloc (by omega) _).trans (hb3.mono (by omega))) (by omega); have hs3 := hb3.size; have hB3 : Below W.heap.size W w3 := hb.trans (((Below.refl W.heap.size w2).alloc (by omega) _).trans (hb3.mono (by omega))))
            | (go_at_call 156; refine (HF1.out _).mono ?_; rintro e w4 ⟨rfl, hb4⟩; have hc4 := hc3.below (m := W.heap.size + 1) (((Below.refl _ w3).alloc (by simp only [World.alloc, Array.size_push] at hs3; omega) _).trans (hb4.mono (by simp only [World.alloc, Array.size_push] at hs3; omega))) (by omega); have hcx4 := hc4.1 0 (by omega); have hB4 : Below W.heap.size W w4 := hB3.trans (((Below.refl W.heap.size w3).alloc (by simp only [World.alloc, Array.size_push] at hs3; omega) _).trans (hb4.mono (by simp only [World.alloc, Array.size_push] at hs3; omega))))
            | (go_at_call 155; refine (HRC.out _ hc4).mono ?_; rintro e w5 ⟨rfl, ⟨A5, c5, hx5, h51, h52, hA5⟩, hb5, hs5⟩; obtain ⟨g, rfl, hg1, hg2, hg3⟩ : ∃ g, A5 = some ⟨g, 0, none⟩ ∧ w4.heap.size ≤ g ∧ g ≠ W.heap.size ∧ CellsAt w5 g (k + bl) (fun _ => .int .u8 0) := hA5.elim (fun h => absurd h.2.1 (by omega)) id; have hck : ¬ c5 = k := (by omega); have hB5 : Below W.heap.size W w5 := hB4.trans (hb5 _ (Nat.le_refl _)); have hcx5 : w5.cell? ⟨W.heap.size, 0, none⟩ = some (.slice (some ⟨g, 0, none⟩) (k + bl) c5) := hx5; have hcx6 : (w5.setCells g k (bs.map encB)).cell? ⟨W.heap.size, 0, none⟩ = some (.slice (some ⟨g, 0, none⟩) (k + bl) c5) := (World.cell?_setCells_out g _ _ _ _ (fun e _ => absurd e.symm hg2)).trans hx5)
            | (refine wpList_copy_known rfl _ _ _ _ rfl _ _ _ (w5.setCells g k (bs.map encB)) rfl rfl (fun ty => run_copy_cells w5 25 25 ty 5 g k bl (c5 - k) ⟨b, off, none⟩ bl c (bs.map encB) Tryz.underlyingBytes (by kernel_rfl) ?q1 ?q2 ?q3 ?q4 ?q5) ?_))
          case q1 => rw [List.length_map, hl]; exact (Nat.min_self bl).symm
          case q2 =>
            intro j u hu
            rw [plain_add]
            have hb5' : w5.cell? ⟨b, off + j, none⟩ = W.cell? ⟨b, off + j, none⟩ := hB5.cell (p := ⟨b, off + j, none⟩) hbW
            rw [hb5']
            exact hcs j u hu
          case q3 =>
            intro j hj
            rw [hg3.1 (k + j) (by rw [List.length_map] at hj; omega)]
            rfl
          case q4 => intro j _; exact hg3.2 (k + j)
          case q5 => intro u hu; obtain ⟨x, _, rfl⟩ := List.mem_map.1 hu; rfl
          rw [fwd_ret]
          refine bodyPost_ret (v := .tuple #[.slice (some ⟨g, 0, none⟩) (k + bl) c5, .int .i64 0]) (by simp [results, Tryz.results105, go_sem]) rfl ?_
          exact ⟨⟨_, rfl⟩, below_setCells (by have := hB4.size; omega) _ _ _ hB5⟩
end Go.Proofs.YtibpagmpdgflmaaGreatDoor

namespace Go.Proofs.YtibpagmpdgflmaaGreatDoor
open Go.RowKit
attribute [local go_sem] Oper.semAt_some

def readNo (a n : Int) : Int := if a < 0 ∨ n < 0 then 2 else 0
set_option maxRecDepth 100000 in
theorem numRead_any (k : Int) (p d : ByteArray) (a n : Int) (A : Option Addr) (m c : Nat) (W : World) (ha : a < 9223372036854775808) (hn : n < 9223372036854775808) :
    Calls Tryz.prog 132 #[opV k p d a n A m c] W fun e W' => e = .returned (.int .i64 (readNo a n)) ∧ Below W.heap.size W W' := by
  unfold opV
  by_cases h : a < 0 ∨ n < 0
  · have e1 : readNo a n = 2 := if_pos h
    rw [e1]
    have HR := Lib.hid (fun W => fileRead_neg none 0 0 a n h W)
    go_enter Tryz.func132, Tryz.ntmps132
    go_wp2_with (go_at_call 133; refine (HR.out _).mono ?_; rintro e w2 ⟨rfl, rfl⟩)
    go_ret
    exact ⟨rfl, (Below.refl _ _).alloc (Nat.le_refl _) _⟩
  · have e1 : readNo a n = 0 := if_neg h
    rw [e1]
    obtain ⟨x, rfl⟩ : ∃ x : Nat, a = x := ⟨a.toNat, by omega⟩
    obtain ⟨y, rfl⟩ : ∃ y : Nat, n = y := ⟨n.toNat, by omega⟩
    have HR := Lib.hid (fun W => fileRead_nil x y W (by omega) (by omega))
    go_enter Tryz.func132, Tryz.ntmps132
    go_wp2_with (go_at_call 133; refine (HR.out _).mono ?_; rintro e w2 ⟨v, rfl, _, hb⟩)
    go_ret
    exact ⟨rfl, ((Below.refl _ _).alloc (Nat.le_refl _) _).trans (hb.mono (by simp))⟩
set_option maxRecDepth 100000 in
theorem numWrite_any (k : Int) (p d : ByteArray) (a n : Int) (A : Option Addr) (m c : Nat) (bs : List UInt8) (W : World) (hl : bs.length = m) (hm : m ≤ maxLen) (hrow : RowAt W A (bs.map encB)) :
    Calls Tryz.prog 104 #[opV k p d a n A m c] W fun e W' => e = .returned (.int .i64 (writeN a m)) ∧ Below W.heap.size W W' := by
  unfold opV
  have HR := Lib.hid (fun W hrow => write_nil a m c A bs W hl hm hrow)
  have HROW := Lib.hid hrow
  clear hrow
  generalize writeN a m = z at *
  go_enter Tryz.func104, Tryz.ntmps104
  go_wp2_with (go_at_call 105; refine (HR.out _ (HROW.out.alloc _)).mono ?_; rintro e w2 ⟨⟨v, rfl⟩, hb⟩)
  go_ret
  exact ⟨rfl, ((Below.refl _ _).alloc (Nat.le_refl _) _).trans (hb.mono (by simp))⟩
theorem above1_any (n : Int) (B : Nat) (W : World) (hc : W.cell? ⟨B, 0, none⟩ = some (.int .i64 448)) :
    Calls Tryz.prog 158 #[.int .i64 n, .pointer (some ⟨B, 0, none⟩)] W fun e W' => e = .returned (.bool (decide (448 < n))) ∧ W' = W := by
  go_enter Tryz.func158, Tryz.ntmps158
  go_wp2
  go_ret
  exact ⟨rfl, rfl⟩
set_option maxRecDepth 100000 in
theorem above_any (n : Int) (b : Nat) (W : World) (hb : b < W.heap.size) (hc : W.cell? ⟨b, 0, none⟩ = some (.int .i64 n)) :
    Calls Tryz.prog 108 #[.int .i64 448, .slice (some ⟨b, 0, none⟩) 1 1] W fun e W' => e = .returned (.bool (decide (448 < n))) ∧ Below W.heap.size W W' := by
  have hmf : ∀ (fn : Fn) (first cap : Array Value) (w : World), (Instr.makeFunc fn first cap).run Tryz.prog w = .ok (.func fn first cap) w := fun _ _ _ _ => rfl
  have hb0 : Below W.heap.size W (W.alloc (.cells #[.int .i64 448] 3)) := (Below.refl _ _).alloc (Nat.le_refl _) _
  have hC := AnyE.slices_ContainsFunc Tryz.containsInt (enc := fun n : Int => .int .i64 n) (fun x => decide (448 < x)) 158 #[.pointer (some ⟨W.heap.size, 0, none⟩)] (enters_of Tryz.func158 (by kernel_rfl) rfl)
    b 0 1 1 [n] (W.alloc (.cells #[.int .i64 448] 3))
    (fun W1 x hW => by
      refine (above1_any x W.heap.size W1 ?_).mono ?_
      · exact (hW.cell (p := ⟨W.heap.size, 0, none⟩) (by simp)).trans (by simp)
      · rintro e w' ⟨rfl, rfl⟩
        exact ⟨rfl, 0, rfl⟩)
    (by simp) (by omega)
    (fun j hj => by
      have : j = 0 := by simp at hj; omega
      subst this
      exact (hb0.cell (p := ⟨b, 0, none⟩) hb).trans hc)
  have e1 : ([n].take 1).any (fun x => decide (448 < x)) = decide (448 < n) := by simp
  rw [e1] at hC
  have HC := Lib.hid hC
  clear hC e1
  generalize decide (448 < n) = q at *
  go_enter Tryz.func108, Tryz.ntmps108
  go_wp2_with (go_at_call 157; refine HC.out.mono ?_; rintro e w' ⟨rfl, k, rfl⟩)
  go_ret
  exact ⟨rfl, below_drewN hb0 k⟩
set_option maxRecDepth 100000 in
theorem numCut_any (k : Int) (p d : ByteArray) (a n : Int) (A : Option Addr) (m c : Nat) (W : World) :
    Calls Tryz.prog 107 #[opV k p d a n A m c] W fun e W' => e = .returned (.int .i64 (cutN n)) ∧ Below W.heap.size W W' := by
  unfold opV
  have HA := Lib.hid (fun b W h1 h2 => above_any n b W h1 h2)
  have HR := Lib.hid (fun W => cut_nil n W)
  by_cases h : 448 < n
  · have hd : decide (448 < n) = true := decide_eq_true h
    have e1 : cutN n = 190 := by unfold cutN; rw [if_neg (by omega), if_pos h]
    rw [e1]
    rw [hd] at HA
    go_enter Tryz.func107, Tryz.ntmps107
    go_wp2_with (go_at_call 108; refine (HA.out _ _ (by simp) (by simp)).mono ?_; rintro e w2 ⟨rfl, hb⟩)
    go_ret
    exact ⟨rfl, (((Below.refl _ _).alloc (Nat.le_refl _) _).alloc (by simp) _).trans (hb.mono (by simp; omega))⟩
  · have hd : decide (448 < n) = false := decide_eq_false h
    rw [hd] at HA
    generalize cutN n = z at *
    go_enter Tryz.func107, Tryz.ntmps107
    go_wp2_with (first
      | (go_at_call 108; refine (HA.out _ _ (by simp) (by simp)).mono ?_; rintro e w2 ⟨rfl, hb⟩; have hx := (hb.cell (p := ⟨W.heap.size, 4, none⟩) (by simp; omega)); have hlt := hb.size)
      | (go_at_call 109; refine (HR.out _).mono ?_; rintro e w3 ⟨⟨v, rfl⟩, hb3⟩))
    go_ret
    have h1 : Below W.heap.size W w2 := (((Below.refl _ _).alloc (Nat.le_refl _) _).alloc (by simp) _).trans (hb.mono (by simp; omega))
    exact ⟨rfl, h1.trans (hb3.mono h1.size)⟩
end Go.Proofs.YtibpagmpdgflmaaGreatDoor
