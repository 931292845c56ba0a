/- What told's deferred functions do. A block's cells, put one by one; the contract of told at walks. The contract of told at lines. The contracts of the functions that Run and Ats read with. Conditions: none. -/
import Derived.Test.YtdpooagnbmpinaaGreatDoorZGY
namespace Go.Proofs.YtdpooagnbmpinaaGreatDoor
open Go.RowKit

theorem as_need_nil (w : World) : (Instr.typeAssert .nilIface 20 109 true).run Tryz.prog w = .ok (.tuple #[.int .i64 0, .bool false]) w := by kernel_rfl
theorem as_err_nil (w : World) : (Instr.typeAssert .nilIface 20 29 true).run Tryz.prog w = .ok (.tuple #[.int .i64 0, .bool false]) w := by kernel_rfl
theorem as_need_need (n : Int) (w : World) : (Instr.typeAssert (.iface 109 (.int .i64 n)) 20 109 true).run Tryz.prog w = .ok (.tuple #[.int .i64 n, .bool true]) w := by kernel_rfl
theorem as_need_err (n : Int) (w : World) : (Instr.typeAssert (.iface 29 (.int .i64 n)) 20 109 true).run Tryz.prog w = .ok (.tuple #[.int .i64 0, .bool false]) w := by kernel_rfl
theorem as_err_err (n : Int) (w : World) : (Instr.typeAssert (.iface 29 (.int .i64 n)) 20 29 true).run Tryz.prog w = .ok (.tuple #[.int .i64 n, .bool true]) w := by kernel_rfl
/-- What told's deferred function does. -/
structure Recovers (f : FuncId) : Prop where
  idle : ∀ (A M E : Addr) (w : World), CallsD Tryz.prog f #[.pointer (some A), .pointer (some M), .pointer (some E)] .returning w fun e u' w' => e = .returned (.tuple #[]) ∧ u' = .returning ∧ w' = w
  need : ∀ (A M E p : Nat) (older : List PanicEntry) (a0 m0 : Value) (w : World), A ≠ M → w.cell? ⟨A, 0, none⟩ = some a0 → w.frozen? ⟨A, 0, none⟩ = false → w.cell? ⟨M, 0, none⟩ = some m0 → w.frozen? ⟨M, 0, none⟩ = false →
    CallsD Tryz.prog f #[.pointer (some ⟨A, 0, none⟩), .pointer (some ⟨M, 0, none⟩), .pointer (some ⟨E, 0, none⟩)] (.panicking (needV p :: older)) w fun e u' w' =>
      e = .returned (.tuple #[]) ∧ u' = .panicking ({ v := .iface 109 (.int .i64 p), recovered := true } :: older) ∧ w' = (w.setCell ⟨A, 0, none⟩ (.int .i64 p)).setCell ⟨M, 0, none⟩ (.bool true)
  err : ∀ (A M E c : Nat) (older : List PanicEntry) (e0 : Value) (w : World), w.cell? ⟨E, 0, none⟩ = some e0 → w.frozen? ⟨E, 0, none⟩ = false →
    CallsD Tryz.prog f #[.pointer (some ⟨A, 0, none⟩), .pointer (some ⟨M, 0, none⟩), .pointer (some ⟨E, 0, none⟩)] (.panicking (errV c :: older)) w fun e u' w' =>
      e = .returned (.tuple #[]) ∧ u' = .panicking ({ v := .iface 29 (.int .i64 c), recovered := true } :: older) ∧ w' = w.setCell ⟨E, 0, none⟩ (.int .i64 c)
set_option maxRecDepth 100000 in
theorem walk_recovers : Recovers 47 := by
  refine ⟨fun A M E w => ?_, fun A M E p older a0 m0 w hne hA hAf hM hMf => ?_, fun A M E c older e0 w hE hEf => ?_⟩
  · refine callsD_of_wpS Tryz.func47 rfl fun c₀ cs hu => ?_
    simp only [Tryz.ntmps47, List.size_toArray, List.length_cons, List.length_nil, Nat.reduceAdd, Nat.reduceSub, Array.replicate_succ, Array.replicate_zero, List.push_toArray, List.append_toArray, List.nil_append, List.cons_append]
    apply wpS_seq
    apply wpS_region
    simp [wpOpsS, go_sem, recoverD, hu, Exit.thenS]
    refine wpS_of_wp ?_
    have h1 := as_need_nil
    have h2 := as_err_nil
    go_wp2
    cases c₀
    simp_all [bodyPostS, results, Tryz.results47]
  · refine callsD_of_wpS Tryz.func47 rfl fun c₀ cs hu => ?_
    simp only [Tryz.ntmps47, List.size_toArray, List.length_cons, List.length_nil, Nat.reduceAdd, Nat.reduceSub, Array.replicate_succ, Array.replicate_zero, List.push_toArray, List.append_toArray, List.nil_append, List.cons_append]
    apply wpS_seq
    apply wpS_region
    simp [wpOpsS, go_sem, recoverD, hu, Exit.thenS, needV]
    refine wpS_of_wp ?_
    have h1 := as_need_need
    have k1 : (w.setCell ⟨A, 0, none⟩ (.int .i64 p)).cell? ⟨M, 0, none⟩ = some m0 := (World.cell?_setCell_other _ _ _ _ (by intro e; injection e with e; exact hne e)).trans hM
    have k2 : (w.setCell ⟨A, 0, none⟩ (.int .i64 p)).frozen? ⟨M, 0, none⟩ = false := (World.frozen?_setCell _ _ _ _).trans hMf
    go_wp2
    exact ⟨rfl, _, rfl, .tuple #[], results_none rfl _ _ _, rfl, rfl, rfl⟩
  · refine callsD_of_wpS Tryz.func47 rfl fun c₀ cs hu => ?_
    simp only [Tryz.ntmps47, List.size_toArray, List.length_cons, List.length_nil, Nat.reduceAdd, Nat.reduceSub, Array.replicate_succ, Array.replicate_zero, List.push_toArray, List.append_toArray, List.nil_append, List.cons_append]
    apply wpS_seq
    apply wpS_region
    simp [wpOpsS, go_sem, recoverD, hu, Exit.thenS, errV]
    refine wpS_of_wp ?_
    have h1 := as_need_err
    have h2 := as_err_err
    go_wp2
    exact ⟨rfl, _, rfl, .tuple #[], results_none rfl _ _ _, rfl, rfl, rfl⟩
end Go.Proofs.YtdpooagnbmpinaaGreatDoor

namespace Go.Proofs.YtdpooagnbmpinaaGreatDoor
open Go.RowKit

/-- The first n cells of a block, none of it frozen. -/
def CellsAt (W : World) (X n : Nat) (f : Nat → Value) : Prop := (∀ i, i < n → W.cell? ⟨X, i, none⟩ = some (f i)) ∧ ∀ i, W.frozen? ⟨X, i, none⟩ = false
def putTo (W : World) (X : Nat) (f : Nat → Value) : Nat → World
  | 0 => W
  | k + 1 => (putTo W X f k).setCell ⟨X, k, none⟩ (f k)
section
variable {W W' : World} {X n : Nat} {f g : Nat → Value}
theorem putTo_other {b i : Nat} (hne : b ≠ X) : ∀ k, (putTo W X f k).cell? ⟨b, i, none⟩ = W.cell? ⟨b, i, none⟩
  | 0 => rfl
  | k + 1 => (World.cell?_setCell_other _ _ _ _ (by intro e; injection e with e; exact hne e.symm)).trans (putTo_other hne k)
theorem putTo_frozen (a : Addr) : ∀ k, (putTo W X f k).frozen? a = W.frozen? a
  | 0 => rfl
  | k + 1 => (World.frozen?_setCell _ _ _ _).trans (putTo_frozen a k)
theorem putTo_size : ∀ k, (putTo W X f k).heap.size = W.heap.size
  | 0 => rfl
  | k + 1 => by rw [putTo]; simpa [World.setCell] using putTo_size k
theorem putTo_at (h : CellsAt W X n g) : ∀ k, k ≤ n → CellsAt (putTo W X f k) X n fun i => if i < k then f i else g i
  | 0, _ => ⟨fun i hi => (h.1 i hi).trans (by simp), h.2⟩
  | k + 1, hk => by
    have ih := putTo_at h k (by omega)
    refine ⟨fun i hi => ?_, fun i => (World.frozen?_setCell _ _ _ _).trans (ih.2 i)⟩
    by_cases e : i = k
    · subst e
      rw [putTo, World.cell?_setCell_same' _ _ _ (by rw [ih.1 i hi]; rfl)]
      exact congrArg some (if_pos (by omega)).symm
    · rw [putTo, World.cell?_setCell_other _ _ _ _ (by intro h; injection h with _ h; exact e h.symm), ih.1 i hi]
      by_cases h2 : i < k
      · exact congrArg some ((if_pos h2).trans (if_pos (by omega)).symm)
      · exact congrArg some ((if_neg h2).trans (if_neg (by omega)).symm)
theorem putTo_all (h : CellsAt W X n g) : CellsAt (putTo W X f n) X n f := by
  have := putTo_at (f := f) h n (Nat.le_refl _)
  exact ⟨fun i hi => (this.1 i hi).trans (congrArg some (if_pos hi)), this.2⟩
theorem CellsAt.below {m : Nat} (h : CellsAt W X n f) (hb : Below m W W') (hX : X < m) : CellsAt W' X n f := ⟨fun i hi => (hb.cell (p := ⟨X, i, none⟩) hX).trans (h.1 i hi), fun i => (hb.frozen (p := ⟨X, i, none⟩) hX).trans (h.2 i)⟩
theorem CellsAt.rb {R m : Nat} (h : CellsAt W X n f) (hb : RB R m W W') (hX : X < m) (hf : FreeAt R W X) : CellsAt W' X n f := ⟨fun i hi => (hb.cell hX hf).trans (h.1 i hi), fun i => (hb.frozen hX hf).trans (h.2 i)⟩
theorem CellsAt.set {B i : Nat} {v : Value} (h : CellsAt W X n f) (hne : B ≠ X) : CellsAt (W.setCell ⟨B, i, none⟩ v) X n f :=
  ⟨fun j hj => (World.cell?_setCell_other _ _ _ _ (by intro e; injection e with e; exact hne e)).trans (h.1 j hj), fun j => (World.frozen?_setCell _ _ _ _).trans (h.2 j)⟩
theorem CellsAt.put {B m : Nat} (h : CellsAt W X n f) (hne : X ≠ B) : CellsAt (putTo W B g m) X n f := ⟨fun i hi => (putTo_other hne m).trans (h.1 i hi), fun i => (putTo_frozen _ m).trans (h.2 i)⟩
theorem FreeAt.putTo {R k : Nat} (h : FreeAt R W k) (hne : X ≠ R) : ∀ m, FreeAt R (putTo W X f m) k
  | 0 => h
  | m + 1 => (FreeAt.putTo h hne m).set hne
theorem RdAt.putTo {R : Nat} {FA : Option Addr} {nf cf : Nat} {fed ats : List Nat} (h : RdAt R FA nf cf fed ats W) (hf : FreeAt R W X) (hR : R ≤ X) : ∀ m, RdAt R FA nf cf fed ats (putTo W X f m)
  | 0 => h
  | m + 1 => (RdAt.putTo h hf hR m).set (hf.putTo hf.1 m) hR
theorem RB.putTo {R k : Nat} {W0 : World} (h : RB R k W0 W) (hn : k ≤ X) (hne : X ≠ R) : ∀ m, RB R k W0 (putTo W X f m)
  | 0 => h
  | m + 1 => (RB.putTo h hn hne m).set hn hne
end
/-- The cells of a walk's answer. -/
def cellsW (more at_ used no line k l t : Value) : Nat → Value
  | 0 => more
  | 1 => at_
  | 2 => used
  | 3 => no
  | 4 => line
  | 5 => k
  | 6 => l
  | _ => t
def zeroW : Nat → Value := cellsW (.bool false) (.int .i64 0) (.int .i64 0) (.int .i64 0) (.int .i64 0) (.int .i64 0) (.int .i64 0) (.int .i64 0)
def lineW (t : Nat × Nat × Nat × Nat) : Nat → Value := cellsW (.bool false) (.int .i64 0) (.int .i64 0) (.int .i64 0) (.int .i64 t.1) (.int .i64 t.2.1) (.int .i64 t.2.2.1) (.int .i64 t.2.2.2)
def agg8 (f : Nat → Value) : Value := .agg #[f 0, f 1, f 2, f 3, f 4, f 5, f 6, f 7]
def encLW (t : Nat × Nat × Nat × Nat) : Value := agg8 (lineW t)
/-- What told tells. -/
def toldV {α : Type} (enc : α → Value) (zero : Value) : Res α → Value
  | .val a _ => .tuple #[enc a, .int .i64 0, .int .i64 0, .bool false]
  | .stop (.need p) _ => .tuple #[zero, .int .i64 0, .int .i64 p, .bool true]
  | .stop (.err c) _ => .tuple #[zero, .int .i64 c, .int .i64 0, .bool false]
variable {R : Nat} {FA : Option Addr} {nf cf : Nat} {fed ats : List Nat}
set_option maxRecDepth 100000 in
set_option maxHeartbeats 4000000 in
theorem toldW_any (Rb Nb : Nat) (r : Res (Nat × Nat × Nat × Nat)) (W : World) (h : RdAt R FA nf cf fed ats W)
    (hread : ∀ W', Below W.heap.size W W' → Calls Tryz.prog 28 #[.pointer (some ⟨Rb, 0, none⟩), .pointer (some ⟨Nb, 0, none⟩)] W' (ReadsTo R FA nf cf fed W' encLW r)) :
    Calls Tryz.prog 27 #[.func (.func 28) #[] #[.pointer (some ⟨Rb, 0, none⟩), .pointer (some ⟨Nb, 0, none⟩)]] W fun e W' =>
      e = .returned (toldV encLW (agg8 zeroW) r) ∧ RdAt R FA nf cf fed r.ats W' ∧ RB R W.heap.size W W' := by
  have hmf : ∀ (fn : Fn) (first cap : Array Value) (w : World), (Instr.makeFunc fn first cap).run Tryz.prog w = .ok (.func fn first cap) w := fun _ _ _ _ => rfl
  obtain ⟨W0, hW0⟩ : ∃ W0, lay4 W #[.bool false, .int .i64 0, .int .i64 0, .int .i64 0, .int .i64 0, .int .i64 0, .int .i64 0, .int .i64 0] #[.int .i64 0] #[.int .i64 0] #[.bool false] 48 29 3 4 = W0 := ⟨_, rfl⟩
  have hb0 : Below W.heap.size W W0 := by rw [← hW0]; exact lay4_below ..
  have hs0 : W0.heap.size = W.heap.size + 4 := by rw [← hW0]; exact lay4_size ..
  have HRD := Lib.hid (hread W0 hb0)
  have hF : ∀ b, W.heap.size ≤ b → FreeAt R W0 b := fun b hb => h.free_new hb0 hb
  have hCO : CellsAt W0 W.heap.size 8 zeroW := ⟨fun i hi => by
    rw [← hW0]
    match i, hi with
    | 0, _ => exact lay4_0 _ _ _ _ _ _ _ _ _ 0 _ rfl
    | 1, _ => exact lay4_0 _ _ _ _ _ _ _ _ _ 1 _ rfl
    | 2, _ => exact lay4_0 _ _ _ _ _ _ _ _ _ 2 _ rfl
    | 3, _ => exact lay4_0 _ _ _ _ _ _ _ _ _ 3 _ rfl
    | 4, _ => exact lay4_0 _ _ _ _ _ _ _ _ _ 4 _ rfl
    | 5, _ => exact lay4_0 _ _ _ _ _ _ _ _ _ 5 _ rfl
    | 6, _ => exact lay4_0 _ _ _ _ _ _ _ _ _ 6 _ rfl
    | 7, _ => exact lay4_0 _ _ _ _ _ _ _ _ _ 7 _ rfl, fun i => by rw [← hW0]; exact lay4_frozen _ _ _ _ _ _ _ _ _ _ i (Nat.le_refl _)⟩
  have hCE : CellsAt W0 (W.heap.size + 1) 1 (fun _ => .int .i64 0) := ⟨fun i hi => by rw [← hW0, show i = 0 from by omega]; exact lay4_1 _ _ _ _ _ _ _ _ _ 0 _ rfl, fun i => by rw [← hW0]; exact lay4_frozen _ _ _ _ _ _ _ _ _ _ i (by omega)⟩
  have hCA : CellsAt W0 (W.heap.size + 2) 1 (fun _ => .int .i64 0) := ⟨fun i hi => by rw [← hW0, show i = 0 from by omega]; exact lay4_2 _ _ _ _ _ _ _ _ _ 0 _ rfl, fun i => by rw [← hW0]; exact lay4_frozen _ _ _ _ _ _ _ _ _ _ i (by omega)⟩
  have hCM : CellsAt W0 (W.heap.size + 3) 1 (fun _ => .bool false) := ⟨fun i hi => by rw [← hW0, show i = 0 from by omega]; exact lay4_3 _ _ _ _ _ _ _ _ _ 0 _ rfl, fun i => by rw [← hW0]; exact lay4_frozen _ _ _ _ _ _ _ _ _ _ i (by omega)⟩
  have HB0 := Lib.hid (RB.of_below hb0 h.lt)
  have hRl := h.lt
  unfold lay4 at hW0
  have HF := Lib.hid hF
  have HCO := Lib.hid hCO
  have HCE := Lib.hid hCE
  have HCA := Lib.hid hCA
  have HCM := Lib.hid hCM
  clear hread hb0 h hF hCO hCE hCA hCM
  go_enter_defers Tryz.func27, Tryz.ntmps27
  cases r with
  | stop o l =>
    have HC := Lib.hid (reads_stop HRD.out rfl)
    clear HRD
    go_wp2_with fail
    refine HC.out.mono ?_
    rintro e w2 ⟨rfl, h2, hb2⟩
    have hO := HCO.out.rb hb2 (by omega) (HF.out _ (Nat.le_refl _))
    have hE := HCE.out.rb hb2 (by omega) (HF.out _ (by omega))
    have hA := HCA.out.rb hb2 (by omega) (HF.out _ (by omega))
    have hM := HCM.out.rb hb2 (by omega) (HF.out _ (by omega))
    have fE := (hb2.keep (W.heap.size + 1) (by omega) (HF.out _ (by omega))).2
    have fA := (hb2.keep (W.heap.size + 2) (by omega) (HF.out _ (by omega))).2
    have fM := (hb2.keep (W.heap.size + 3) (by omega) (HF.out _ (by omega))).2
    have HB2 := Lib.hid (HB0.out.trans (hb2.mono (by omega)))
    clear hb2 HC HF HCO HCE HCA HCM
    cases o with
    | need p =>
      go_wp2_with fail
      refine leaves_cons (f := 47) (args := #[.pointer (some ⟨W.heap.size + 2, 0, none⟩), .pointer (some ⟨W.heap.size + 3, 0, none⟩), .pointer (some ⟨W.heap.size + 1, 0, none⟩)]) (by simp) (by simp [go_sem]) ?_
      refine (walk_recovers.need (W.heap.size + 2) (W.heap.size + 3) (W.heap.size + 1) p [] _ _ _ (by omega) (hA.1 0 (by omega)) (hA.2 0) (hM.1 0 (by omega)) (hM.2 0)).mono ?_
      rintro e u' w3 ⟨rfl, rfl, rfl⟩
      have o3 := (hO.set (B := W.heap.size + 2) (i := 0) (v := .int .i64 (p : Nat)) (by omega)).set (B := W.heap.size + 3) (i := 0) (v := .bool true) (by omega)
      have e3 := ((hE.set (B := W.heap.size + 2) (i := 0) (v := .int .i64 (p : Nat)) (by omega)).set (B := W.heap.size + 3) (i := 0) (v := .bool true) (by omega)).1 0 (by omega)
      have m3 : ((w2.setCell ⟨W.heap.size + 2, 0, none⟩ (.int .i64 (p : Nat))).setCell ⟨W.heap.size + 3, 0, none⟩ (.bool true)).cell? ⟨W.heap.size + 3, 0, none⟩ = some (.bool true) := World.cell?_setCell_same' _ _ _ (by rw [(hM.set (B := W.heap.size + 2) (i := 0) (v := .int .i64 (p : Nat)) (by omega)).1 0 (by omega)]; rfl)
      have a3 : ((w2.setCell ⟨W.heap.size + 2, 0, none⟩ (.int .i64 (p : Nat))).setCell ⟨W.heap.size + 3, 0, none⟩ (.bool true)).cell? ⟨W.heap.size + 2, 0, none⟩ = some (.int .i64 p) :=
        (World.cell?_setCell_other _ _ _ _ (by intro e; injection e with e; omega)).trans (World.cell?_setCell_same' _ _ _ (by rw [hA.1 0 (by omega)]; rfl))
      have r3 := (h2.set fA (by omega) (i := 0) (v := .int .i64 (p : Nat))).set (fM.set fA.1) (by omega) (i := 0) (v := .bool true)
      have b3 := (HB2.out.set (b := W.heap.size + 2) (i := 0) (v := .int .i64 (p : Nat)) (by omega) fA.1).set (b := W.heap.size + 3) (i := 0) (v := .bool true) (by omega) fM.1
      generalize (w2.setCell ⟨W.heap.size + 2, 0, none⟩ (.int .i64 (p : Nat))).setCell ⟨W.heap.size + 3, 0, none⟩ (.bool true) = w4 at *
      have g0 := o3.1 0 (by omega)
      have g1 := o3.1 1 (by omega)
      have g2 := o3.1 2 (by omega)
      have g3 := o3.1 3 (by omega)
      have g4 := o3.1 4 (by omega)
      have g5 := o3.1 5 (by omega)
      have g6 := o3.1 6 (by omega)
      have g7 := o3.1 7 (by omega)
      simp [Leaves, settle, results, Tryz.results27, go_sem, g0, g1, g2, g3, g4, g5, g6, g7, e3, a3, m3]
      exact ⟨rfl, r3, b3⟩
    | err c =>
      go_wp2_with fail
      refine leaves_cons (f := 47) (args := #[.pointer (some ⟨W.heap.size + 2, 0, none⟩), .pointer (some ⟨W.heap.size + 3, 0, none⟩), .pointer (some ⟨W.heap.size + 1, 0, none⟩)]) (by simp) (by simp [go_sem]) ?_
      refine (walk_recovers.err (W.heap.size + 2) (W.heap.size + 3) (W.heap.size + 1) c [] _ _ (hE.1 0 (by omega)) (hE.2 0)).mono ?_
      rintro e u' w3 ⟨rfl, rfl, rfl⟩
      have o3 := hO.set (B := W.heap.size + 1) (i := 0) (v := .int .i64 (c : Nat)) (by omega)
      have a3 := (hA.set (B := W.heap.size + 1) (i := 0) (v := .int .i64 (c : Nat)) (by omega)).1 0 (by omega)
      have m3 := (hM.set (B := W.heap.size + 1) (i := 0) (v := .int .i64 (c : Nat)) (by omega)).1 0 (by omega)
      have e3 : (w2.setCell ⟨W.heap.size + 1, 0, none⟩ (.int .i64 (c : Nat))).cell? ⟨W.heap.size + 1, 0, none⟩ = some (.int .i64 c) := World.cell?_setCell_same' _ _ _ (by rw [hE.1 0 (by omega)]; rfl)
      have r3 := h2.set fE (by omega) (i := 0) (v := .int .i64 (c : Nat))
      have b3 := HB2.out.set (b := W.heap.size + 1) (i := 0) (v := .int .i64 (c : Nat)) (by omega) fE.1
      generalize w2.setCell ⟨W.heap.size + 1, 0, none⟩ (.int .i64 (c : Nat)) = w4 at *
      have g0 := o3.1 0 (by omega)
      have g1 := o3.1 1 (by omega)
      have g2 := o3.1 2 (by omega)
      have g3 := o3.1 3 (by omega)
      have g4 := o3.1 4 (by omega)
      have g5 := o3.1 5 (by omega)
      have g6 := o3.1 6 (by omega)
      have g7 := o3.1 7 (by omega)
      simp [Leaves, settle, results, Tryz.results27, go_sem, g0, g1, g2, g3, g4, g5, g6, g7, e3, a3, m3]
      exact ⟨rfl, r3, b3⟩
  | val t l =>
    have hc := reads_val HRD.out rfl
    unfold encLW agg8 lineW cellsW at hc
    have HC := Lib.hid hc
    clear HRD hc
    go_wp2_with fail
    refine HC.out.mono ?_
    rintro e w2 ⟨rfl, h2, hb2⟩
    have hO := HCO.out.rb hb2 (by omega) (HF.out _ (Nat.le_refl _))
    have hE := HCE.out.rb hb2 (by omega) (HF.out _ (by omega))
    have hA := HCA.out.rb hb2 (by omega) (HF.out _ (by omega))
    have hM := HCM.out.rb hb2 (by omega) (HF.out _ (by omega))
    have fO := (hb2.keep W.heap.size (by omega) (HF.out _ (by omega))).2
    have fE := (hb2.keep (W.heap.size + 1) (by omega) (HF.out _ (by omega))).2
    have fA := (hb2.keep (W.heap.size + 2) (by omega) (HF.out _ (by omega))).2
    have fM := (hb2.keep (W.heap.size + 3) (by omega) (HF.out _ (by omega))).2
    have HB2 := Lib.hid (HB0.out.trans (hb2.mono (by omega)))
    clear hb2 HC HF HCO HCE HCA HCM
    obtain ⟨w3, hw3⟩ : ∃ w3, putTo w2 W.heap.size (lineW t) 8 = w3 := ⟨_, rfl⟩
    have hO3 : CellsAt w3 W.heap.size 8 (lineW t) := by rw [← hw3]; exact putTo_all hO
    have hE3 : CellsAt w3 (W.heap.size + 1) 1 (fun _ => .int .i64 0) := by rw [← hw3]; exact hE.put (by omega)
    have hA3 : CellsAt w3 (W.heap.size + 2) 1 (fun _ => .int .i64 0) := by rw [← hw3]; exact hA.put (by omega)
    have hM3 : CellsAt w3 (W.heap.size + 3) 1 (fun _ => .bool false) := by rw [← hw3]; exact hM.put (by omega)
    have h3 : RdAt R FA nf cf fed l w3 := by rw [← hw3]; exact h2.putTo fO (by omega) 8
    have fE3 : FreeAt R w3 (W.heap.size + 1) := by rw [← hw3]; exact fE.putTo fO.1 8
    have fA3 : FreeAt R w3 (W.heap.size + 2) := by rw [← hw3]; exact fA.putTo fO.1 8
    have fM3 : FreeAt R w3 (W.heap.size + 3) := by rw [← hw3]; exact fM.putTo fO.1 8
    have HB3 : Hid (RB R W.heap.size W w3) := by rw [Hid, ← hw3]; exact HB2.out.putTo (Nat.le_refl _) fO.1 8
    have z0 := hO.1 0 (by omega)
    have z1 := hO.1 1 (by omega)
    have z2 := hO.1 2 (by omega)
    have z3 := hO.1 3 (by omega)
    have z4 := hO.1 4 (by omega)
    have z5 := hO.1 5 (by omega)
    have z6 := hO.1 6 (by omega)
    have z7 := hO.1 7 (by omega)
    have y0 := hO.2 0
    have y1 := hO.2 1
    have y2 := hO.2 2
    have y3 := hO.2 3
    have y4 := hO.2 4
    have y5 := hO.2 5
    have y6 := hO.2 6
    have y7 := hO.2 7
    have e0 := hE3.1 0 (by omega)
    have ef := hE3.2 0
    have a0 : w3.cell? ⟨W.heap.size + 1 + 1, 0, none⟩ = some (.int .i64 0) := hA3.1 0 (by omega)
    have af : w3.frozen? ⟨W.heap.size + 1 + 1, 0, none⟩ = false := hA3.2 0
    have m0 : w3.cell? ⟨W.heap.size + 1 + 1 + 1, 0, none⟩ = some (.bool false) := hM3.1 0 (by omega)
    have mf : w3.frozen? ⟨W.heap.size + 1 + 1 + 1, 0, none⟩ = false := hM3.2 0
    unfold putTo putTo putTo putTo putTo putTo putTo putTo putTo lineW cellsW at hw3
    clear hO hE hA hM
    go_wp2_with fail
    obtain ⟨w4, hw4⟩ : ∃ w4, (((w3.setCell ⟨W.heap.size + 1, 0, none⟩ (.int .i64 0)).setCell ⟨W.heap.size + 1 + 1, 0, none⟩ (.int .i64 0)).setCell ⟨W.heap.size + 1 + 1 + 1, 0, none⟩ (.bool false)) = w4 := ⟨_, rfl⟩
    have o4 : CellsAt w4 W.heap.size 8 (lineW t) := by rw [← hw4]; exact ((hO3.set (by omega)).set (by omega)).set (by omega)
    have e4 : w4.cell? ⟨W.heap.size + 1, 0, none⟩ = some (.int .i64 0) := by
      rw [← hw4, World.cell?_setCell_other _ _ _ _ (by intro e; injection e with e; omega), World.cell?_setCell_other _ _ _ _ (by intro e; injection e with e; omega)]
      exact World.cell?_setCell_same' _ _ _ (by rw [e0]; rfl)
    have a4 : w4.cell? ⟨W.heap.size + 1 + 1, 0, none⟩ = some (.int .i64 0) := by
      rw [← hw4, World.cell?_setCell_other _ _ _ _ (by intro e; injection e with e; omega)]
      exact World.cell?_setCell_same' _ _ _ (by rw [World.cell?_setCell_other _ _ _ _ (by intro e; injection e with e; omega), a0]; rfl)
    have m4 : w4.cell? ⟨W.heap.size + 1 + 1 + 1, 0, none⟩ = some (.bool false) := by
      rw [← hw4]
      exact World.cell?_setCell_same' _ _ _ (by rw [World.cell?_setCell_other _ _ _ _ (by intro e; injection e with e; omega), World.cell?_setCell_other _ _ _ _ (by intro e; injection e with e; omega), m0]; rfl)
    have r4 : RdAt R FA nf cf fed l w4 := by
      rw [← hw4]
      exact ((h3.set fE3 (by omega)).set (fA3.set fE3.1) (by show R ≤ W.heap.size + 2; omega)).set ((fM3.set fE3.1).set fA3.1) (by show R ≤ W.heap.size + 3; omega)
    have b4 : RB R W.heap.size W w4 := by
      rw [← hw4]
      exact ((HB3.out.set (by omega) fE3.1).set (by omega) fA3.1).set (by omega) fM3.1
    rw [hw4]
    clear hw4 hw3 z0 z1 z2 z3 z4 z5 z6 z7 y0 y1 y2 y3 y4 y5 y6 y7
    refine leaves_cons (f := 47) (args := #[.pointer (some ⟨W.heap.size + 1 + 1, 0, none⟩), .pointer (some ⟨W.heap.size + 1 + 1 + 1, 0, none⟩), .pointer (some ⟨W.heap.size + 1, 0, none⟩)]) (by simp) (by simp [go_sem]) ?_
    refine (walk_recovers.idle _ _ _ _).mono ?_
    rintro e u' w5 ⟨rfl, rfl, rfl⟩
    have g0 := o4.1 0 (by omega)
    have g1 := o4.1 1 (by omega)
    have g2 := o4.1 2 (by omega)
    have g3 := o4.1 3 (by omega)
    have g4 := o4.1 4 (by omega)
    have g5 := o4.1 5 (by omega)
    have g6 := o4.1 6 (by omega)
    have g7 := o4.1 7 (by omega)
    simp [Leaves, settle, results, Tryz.results27, go_sem, g0, g1, g2, g3, g4, g5, g6, g7, e4, a4, m4]
    exact ⟨rfl, r4, b4⟩
end Go.Proofs.YtdpooagnbmpinaaGreatDoor

namespace Go.Proofs.YtdpooagnbmpinaaGreatDoor
open Go.RowKit

section
variable (W : World) (c0 c1 c2 : Array Value) (T0 T1 T2 : TypeId)
def lay3 : World := ((W.alloc (.cells c0 T0)).alloc (.cells c1 T1)).alloc (.cells c2 T2)
theorem lay3_size : (lay3 W c0 c1 c2 T0 T1 T2).heap.size = W.heap.size + 3 := by simp [lay3]
theorem lay3_below : Below W.heap.size W (lay3 W c0 c1 c2 T0 T1 T2) :=
  (((Below.refl _ _).alloc (Nat.le_refl _) _).alloc (by simp) _).alloc (by simp; omega) _
theorem lay3_0 (i : Nat) (v : Value) (h : c0[i]? = some v) : (lay3 W c0 c1 c2 T0 T1 T2).cell? ⟨W.heap.size, i, none⟩ = some v :=
  (((Below.refl (W.heap.size + 1) (W.alloc (.cells c0 T0))).alloc (by simp) _).alloc (by simp) _ |>.cell (p := ⟨W.heap.size, i, none⟩) (Nat.lt_succ_self _)).trans (cell_new W c0 T0 i v h)
theorem lay3_1 (i : Nat) (v : Value) (h : c1[i]? = some v) : (lay3 W c0 c1 c2 T0 T1 T2).cell? ⟨W.heap.size + 1, i, none⟩ = some v := by
  have h1 := cell_new (W.alloc (.cells c0 T0)) c1 T1 i v h
  have e : (W.alloc (.cells c0 T0)).heap.size = W.heap.size + 1 := by simp
  rw [e] at h1
  exact ((Below.refl (W.heap.size + 2) ((W.alloc (.cells c0 T0)).alloc (.cells c1 T1))).alloc (by simp) _ |>.cell (p := ⟨W.heap.size + 1, i, none⟩) (Nat.lt_succ_self _)).trans h1
theorem lay3_2 (i : Nat) (v : Value) (h : c2[i]? = some v) : (lay3 W c0 c1 c2 T0 T1 T2).cell? ⟨W.heap.size + 2, i, none⟩ = some v := by
  have h1 := cell_new ((W.alloc (.cells c0 T0)).alloc (.cells c1 T1)) c2 T2 i v h
  have e : ((W.alloc (.cells c0 T0)).alloc (.cells c1 T1)).heap.size = W.heap.size + 2 := by simp
  rw [e] at h1
  exact h1
theorem lay3_frozen (b i : Nat) (hb : W.heap.size ≤ b) : (lay3 W c0 c1 c2 T0 T1 T2).frozen? ⟨b, i, none⟩ = false := by
  have h0 : W.frozen? ⟨b, i, none⟩ = false := by
    unfold World.frozen?
    rw [show W.heap[(⟨b, i, none⟩ : Addr).block]? = none from Array.getElem?_eq_none hb]
  exact frozen_lay _ _ _ _ _ (frozen_lay _ _ _ _ _ (frozen_lay _ _ _ _ _ h0))
end
def encLn1 (t : Nat × Nat × Nat × Nat) : Value := .int .i64 t.1
variable {R : Nat} {FA : Option Addr} {nf cf : Nat} {fed ats : List Nat}
end Go.Proofs.YtdpooagnbmpinaaGreatDoor

namespace Go.Proofs.YtdpooagnbmpinaaGreatDoor
open Go.RowKit

/-- The boxes that Run and Ats read from: the reader, and the names. -/
def NamesAt (R Rb Nb : Nat) (nm : List (List UInt8)) (W : World) : Prop :=
  W.cell? ⟨Rb, 0, none⟩ = some (.pointer (some ⟨R, 0, none⟩)) ∧ ∃ NA cn, W.cell? ⟨Nb, 0, none⟩ = some (.slice NA nm.length cn) ∧ nm.length ≤ cn ∧ nm.length ≤ 100 ∧ (∀ x ∈ nm, rightB x = true) ∧ RowAt W NA (nm.map fun x => .string (ofBytes x)) ∧ (0 < nm.length → ∀ b off, NA = some ⟨b, off, none⟩ → b < R)
variable {R : Nat} {FA : Option Addr} {nf cf : Nat} {fed : List Nat}
set_option maxRecDepth 100000 in
set_option maxHeartbeats 4000000 in
theorem run1_any (Rb Nb : Nat) (nm : List (List UInt8)) (W : World) (hn : NamesAt R Rb Nb nm W) (hnf : nf ≤ 20000) (hx64 : ∀ x ∈ fed, x < 18446744073709551616) (h : RdAt R FA nf cf fed [] W) :
    Calls Tryz.prog 28 #[.pointer (some ⟨Rb, 0, none⟩), .pointer (some ⟨Nb, 0, none⟩)] W (ReadsTo R FA nf cf fed W encLW (walkedP fed nm)) := by
  obtain ⟨c1, NA, cn, c2, hcn, h100, hright, hrow, hNA⟩ := hn
  obtain ⟨W1, hW1⟩ : ∃ W1, W.alloc (.cells #[.bool false, .int .i64 0, .int .i64 0, .int .i64 0, .int .i64 0, .int .i64 0, .int .i64 0, .int .i64 0] 48) = W1 := ⟨_, rfl⟩
  have hb1 : Below W.heap.size W W1 := by rw [← hW1]; exact (Below.refl _ _).alloc (Nat.le_refl _) _
  have hs1 : W1.heap.size = W.heap.size + 1 := by rw [← hW1]; simp
  have hR1 := h.below hb1
  have hFO := h.free_new hb1 (Nat.le_refl _)
  have d1 := (hb1.cell (p := ⟨Rb, 0, none⟩) (World.block_lt_of_cell? W ⟨Rb, 0, none⟩ c1)).trans c1
  have d2 := (hb1.cell (p := ⟨Nb, 0, none⟩) (World.block_lt_of_cell? W ⟨Nb, 0, none⟩ c2)).trans c2
  have hwk := walked_any nm NA nm.length cn W1 rfl h100 hcn hright (hrow.below hb1) hNA hnf hx64 hR1
  have hCO : CellsAt W1 W.heap.size 8 zeroW := ⟨fun i hi => by
    rw [← hW1]
    match i, hi with
    | 0, _ => exact cell_new W _ _ 0 _ rfl
    | 1, _ => exact cell_new W _ _ 1 _ rfl
    | 2, _ => exact cell_new W _ _ 2 _ rfl
    | 3, _ => exact cell_new W _ _ 3 _ rfl
    | 4, _ => exact cell_new W _ _ 4 _ rfl
    | 5, _ => exact cell_new W _ _ 5 _ rfl
    | 6, _ => exact cell_new W _ _ 6 _ rfl
    | 7, _ => exact cell_new W _ _ 7 _ rfl, fun i => by rw [← hW1]; exact (World.frozen?_of_block (w := W.alloc (.cells #[.bool false, .int .i64 0, .int .i64 0, .int .i64 0, .int .i64 0, .int .i64 0, .int .i64 0, .int .i64 0] 48)) rfl).trans (by simp)⟩
  have HB1 := Lib.hid (RB.of_below hb1 h.lt)
  have hRl := h.lt
  generalize nm.length = nn at *
  clear c1 c2 hrow hNA hright h hb1 hR1
  cases hr : walkedP fed nm with
  | stop o l =>
    have HC := Lib.hid (reads_stop hwk hr)
    clear hwk
    go_enter Tryz.func28, Tryz.ntmps28
    go_wp2_with fail
    refine HC.out.mono ?_
    rintro e w2 ⟨rfl, h2, hb2⟩
    go_wp2_with fail
    exact ⟨rfl, (endOf_stop _ _ _).symm, h2, HB1.out.trans (hb2.mono (by omega))⟩
  | val t l =>
    have hwv := reads_val hwk hr
    unfold encWk encNd encN at hwv
    have HC := Lib.hid hwv
    clear hwk hwv
    go_enter Tryz.func28, Tryz.ntmps28
    go_wp2_with fail
    refine HC.out.mono ?_
    rintro e w2 ⟨rfl, h2, hb2⟩
    have hO2 := hCO.rb hb2 (by omega) hFO
    have fO2 := (hb2.keep W.heap.size (by omega) hFO).2
    have HB2 := Lib.hid (HB1.out.trans (hb2.mono (by omega)))
    have hs2 := hb2.size
    clear hb2 hCO hFO HC
    obtain ⟨w3, hw3⟩ : ∃ w3, w2.alloc (.cells #[.int .i64 t.2.1, .int .i64 t.2.2.1, .int .i64 t.2.2.2] 46) = w3 := ⟨_, rfl⟩
    have hb3 : Below w2.heap.size w2 w3 := by rw [← hw3]; exact (Below.refl _ _).alloc (Nat.le_refl _) _
    have n0 : w3.cell? ⟨w2.heap.size, 0, none⟩ = some (.int .i64 t.2.1) := by rw [← hw3]; exact cell_new w2 _ _ 0 _ rfl
    have n1 : w3.cell? ⟨w2.heap.size, 1, none⟩ = some (.int .i64 t.2.2.1) := by rw [← hw3]; exact cell_new w2 _ _ 1 _ rfl
    have n2 : w3.cell? ⟨w2.heap.size, 2, none⟩ = some (.int .i64 t.2.2.2) := by rw [← hw3]; exact cell_new w2 _ _ 2 _ rfl
    have hO3 := hO2.below hb3 (by omega)
    have fO3 := freeAt_below hb3 h2.lt fO2
    have h3 := h2.below hb3
    have HB3 := Lib.hid (HB2.out.trans ((RB.of_below hb3 h2.lt).mono (by omega)))
    obtain ⟨w4, hw4⟩ : ∃ w4, putTo w3 W.heap.size (lineW t) 8 = w4 := ⟨_, rfl⟩
    have hO4 : CellsAt w4 W.heap.size 8 (lineW t) := by rw [← hw4]; exact putTo_all hO3
    have h4 : RdAt R FA nf cf fed l w4 := by rw [← hw4]; exact h3.putTo fO3 (by omega) 8
    have HB4 : Hid (RB R W.heap.size W w4) := by rw [Hid, ← hw4]; exact HB3.out.putTo (Nat.le_refl _) fO3.1 8
    have z0 := hO3.1 0 (by omega)
    have z1 := hO3.1 1 (by omega)
    have z2 := hO3.1 2 (by omega)
    have z3 := hO3.1 3 (by omega)
    have z4 := hO3.1 4 (by omega)
    have z5 := hO3.1 5 (by omega)
    have z6 := hO3.1 6 (by omega)
    have z7 := hO3.1 7 (by omega)
    have y0 := hO3.2 0
    have y1 := hO3.2 1
    have y2 := hO3.2 2
    have y3 := hO3.2 3
    have y4 := hO3.2 4
    have y5 := hO3.2 5
    have y6 := hO3.2 6
    have y7 := hO3.2 7
    have HO4 := Lib.hid hO4
    have H4 := Lib.hid h4
    unfold putTo putTo putTo putTo putTo putTo putTo putTo putTo lineW cellsW at hw4
    clear hO3 hO2 fO3 fO2 h3 h2 hO4 h4 hb3
    go_wp2_with fail
    have g0 := HO4.out.1 0 (by omega)
    have g1 := HO4.out.1 1 (by omega)
    have g2 := HO4.out.1 2 (by omega)
    have g3 := HO4.out.1 3 (by omega)
    have g4 := HO4.out.1 4 (by omega)
    have g5 := HO4.out.1 5 (by omega)
    have g6 := HO4.out.1 6 (by omega)
    have g7 := HO4.out.1 7 (by omega)
    refine bodyPost_ret (v := encLW t) (by simp [results, Tryz.results28, go_sem, g0, g1, g2, g3, g4, g5, g6, g7, encLW, agg8]) rfl ?_
    exact ⟨rfl, H4.out, HB4.out⟩
end Go.Proofs.YtdpooagnbmpinaaGreatDoor
