/- The contract of told at lines. Conditions: none. -/
import Derived.Test.YtdlblbhmeidhbaaGreatDoorZGP
namespace Go.Proofs.YtdlblbhmeidhbaaGreatDoor
open Go.RowKit

section
variable (W : World) (c0 c1 c2 : Array Value) (T0 T1 T2 : TypeId)
def lay3 : World := ((W.alloc (.cells c0 T0)).alloc (.cells c1 T1)).alloc (.cells c2 T2)
theorem lay3_size : (lay3 W c0 c1 c2 T0 T1 T2).heap.size = W.heap.size + 3 := by simp [lay3]
theorem lay3_below : Below W.heap.size W (lay3 W c0 c1 c2 T0 T1 T2) :=
  (((Below.refl _ _).alloc (Nat.le_refl _) _).alloc (by simp) _).alloc (by simp; omega) _
theorem lay3_0 (i : Nat) (v : Value) (h : c0[i]? = some v) : (lay3 W c0 c1 c2 T0 T1 T2).cell? ⟨W.heap.size, i, none⟩ = some v :=
  (((Below.refl (W.heap.size + 1) (W.alloc (.cells c0 T0))).alloc (by simp) _).alloc (by simp) _ |>.cell (p := ⟨W.heap.size, i, none⟩) (Nat.lt_succ_self _)).trans (cell_new W c0 T0 i v h)
theorem lay3_1 (i : Nat) (v : Value) (h : c1[i]? = some v) : (lay3 W c0 c1 c2 T0 T1 T2).cell? ⟨W.heap.size + 1, i, none⟩ = some v := by
  have h1 := cell_new (W.alloc (.cells c0 T0)) c1 T1 i v h
  have e : (W.alloc (.cells c0 T0)).heap.size = W.heap.size + 1 := by simp
  rw [e] at h1
  exact ((Below.refl (W.heap.size + 2) ((W.alloc (.cells c0 T0)).alloc (.cells c1 T1))).alloc (by simp) _ |>.cell (p := ⟨W.heap.size + 1, i, none⟩) (Nat.lt_succ_self _)).trans h1
theorem lay3_2 (i : Nat) (v : Value) (h : c2[i]? = some v) : (lay3 W c0 c1 c2 T0 T1 T2).cell? ⟨W.heap.size + 2, i, none⟩ = some v := by
  have h1 := cell_new ((W.alloc (.cells c0 T0)).alloc (.cells c1 T1)) c2 T2 i v h
  have e : ((W.alloc (.cells c0 T0)).alloc (.cells c1 T1)).heap.size = W.heap.size + 2 := by simp
  rw [e] at h1
  exact h1
theorem lay3_frozen (b i : Nat) (hb : W.heap.size ≤ b) : (lay3 W c0 c1 c2 T0 T1 T2).frozen? ⟨b, i, none⟩ = false := by
  have h0 : W.frozen? ⟨b, i, none⟩ = false := by
    unfold World.frozen?
    rw [show W.heap[(⟨b, i, none⟩ : Addr).block]? = none from Array.getElem?_eq_none hb]
  exact frozen_lay _ _ _ _ _ (frozen_lay _ _ _ _ _ (frozen_lay _ _ _ _ _ h0))
end
def encLn1 (t : Nat × Nat × Nat × Nat) : Value := .int .i64 t.1
variable {R : Nat} {FA : Option Addr} {nf cf : Nat} {fed ats : List Nat}
set_option maxRecDepth 100000 in
set_option maxHeartbeats 4000000 in
theorem toldI_any (Rb Nb : Nat) (r : Res (Nat × Nat × Nat × Nat)) (W : World) (h : RdAt R FA nf cf fed ats W)
    (hread : ∀ W', Below W.heap.size W W' → Calls Tryz.prog 37 #[.pointer (some ⟨Rb, 0, none⟩), .pointer (some ⟨Nb, 0, none⟩)] W' (ReadsTo R FA nf cf fed W' encLn1 r)) :
    Calls Tryz.prog 36 #[.func (.func 37) #[] #[.pointer (some ⟨Rb, 0, none⟩), .pointer (some ⟨Nb, 0, none⟩)]] W fun e W' =>
      e = .returned (toldV encLn1 (.int .i64 0) r) ∧ RdAt R FA nf cf fed r.ats W' ∧ RB R W.heap.size W W' := by
  have hmf : ∀ (fn : Fn) (first cap : Array Value) (w : World), (Instr.makeFunc fn first cap).run Tryz.prog w = .ok (.func fn first cap) w := fun _ _ _ _ => rfl
  obtain ⟨W0, hW0⟩ : ∃ W0, lay3 W #[.int .i64 0] #[.int .i64 0] #[.bool false] 25 3 4 = W0 := ⟨_, rfl⟩
  have hb0 : Below W.heap.size W W0 := by rw [← hW0]; exact lay3_below ..
  have hs0 : W0.heap.size = W.heap.size + 3 := by rw [← hW0]; exact lay3_size ..
  have HRD := Lib.hid (hread W0 hb0)
  have hF : ∀ b, W.heap.size ≤ b → FreeAt R W0 b := fun b hb => h.free_new hb0 hb
  have hCE : CellsAt W0 (W.heap.size) 1 (fun _ => .int .i64 0) := ⟨fun i hi => by rw [← hW0, show i = 0 from by omega]; exact lay3_0 _ _ _ _ _ _ _ 0 _ rfl, fun i => by rw [← hW0]; exact lay3_frozen _ _ _ _ _ _ _ _ i (by omega)⟩
  have hCA : CellsAt W0 (W.heap.size + 1) 1 (fun _ => .int .i64 0) := ⟨fun i hi => by rw [← hW0, show i = 0 from by omega]; exact lay3_1 _ _ _ _ _ _ _ 0 _ rfl, fun i => by rw [← hW0]; exact lay3_frozen _ _ _ _ _ _ _ _ i (by omega)⟩
  have hCM : CellsAt W0 (W.heap.size + 1 + 1) 1 (fun _ => .bool false) := ⟨fun i hi => by rw [← hW0, show i = 0 from by omega]; exact lay3_2 _ _ _ _ _ _ _ 0 _ rfl, fun i => by rw [← hW0]; exact lay3_frozen _ _ _ _ _ _ _ _ i (by omega)⟩
  have HB0 := Lib.hid (RB.of_below hb0 h.lt)
  have hRl := h.lt
  unfold lay3 at hW0
  have HF := Lib.hid hF
  have HCE := Lib.hid hCE
  have HCA := Lib.hid hCA
  have HCM := Lib.hid hCM
  clear hread hb0 h hF hCE hCA hCM
  go_enter_defers Tryz.func36, Tryz.ntmps36
  cases r with
  | stop o l =>
    have HC := Lib.hid (reads_stop HRD.out rfl)
    clear HRD
    go_wp2_with fail
    refine HC.out.mono ?_
    rintro e w2 ⟨rfl, h2, hb2⟩
    have hE := HCE.out.rb hb2 (by omega) (HF.out _ (by omega))
    have hA := HCA.out.rb hb2 (by omega) (HF.out _ (by omega))
    have hM := HCM.out.rb hb2 (by omega) (HF.out _ (by omega))
    have fE := (hb2.keep (W.heap.size) (by omega) (HF.out _ (by omega))).2
    have fA := (hb2.keep (W.heap.size + 1) (by omega) (HF.out _ (by omega))).2
    have fM := (hb2.keep (W.heap.size + 1 + 1) (by omega) (HF.out _ (by omega))).2
    have HB2 := Lib.hid (HB0.out.trans (hb2.mono (by omega)))
    clear hb2 HC HF HCE HCA HCM
    cases o with
    | need p =>
      go_wp2_with fail
      refine leaves_cons (f := 56) (args := #[.pointer (some ⟨W.heap.size + 1, 0, none⟩), .pointer (some ⟨W.heap.size + 1 + 1, 0, none⟩), .pointer (some ⟨W.heap.size, 0, none⟩)]) (by simp) (by simp [go_sem]) ?_
      refine (int_recovers.need (W.heap.size + 1) (W.heap.size + 1 + 1) (W.heap.size) p [] _ _ _ (by omega) (hA.1 0 (by omega)) (hA.2 0) (hM.1 0 (by omega)) (hM.2 0)).mono ?_
      rintro e u' w3 ⟨rfl, rfl, rfl⟩
      have e3 := ((hE.set (B := W.heap.size + 1) (i := 0) (v := .int .i64 (p : Nat)) (by omega)).set (B := W.heap.size + 1 + 1) (i := 0) (v := .bool true) (by omega)).1 0 (by omega)
      have m3 : ((w2.setCell ⟨W.heap.size + 1, 0, none⟩ (.int .i64 (p : Nat))).setCell ⟨W.heap.size + 1 + 1, 0, none⟩ (.bool true)).cell? ⟨W.heap.size + 1 + 1, 0, none⟩ = some (.bool true) := World.cell?_setCell_same' _ _ _ (by rw [(hM.set (B := W.heap.size + 1) (i := 0) (v := .int .i64 (p : Nat)) (by omega)).1 0 (by omega)]; rfl)
      have a3 : ((w2.setCell ⟨W.heap.size + 1, 0, none⟩ (.int .i64 (p : Nat))).setCell ⟨W.heap.size + 1 + 1, 0, none⟩ (.bool true)).cell? ⟨W.heap.size + 1, 0, none⟩ = some (.int .i64 p) :=
        (World.cell?_setCell_other _ _ _ _ (by intro e; injection e with e; omega)).trans (World.cell?_setCell_same' _ _ _ (by rw [hA.1 0 (by omega)]; rfl))
      have r3 := (h2.set fA (by omega) (i := 0) (v := .int .i64 (p : Nat))).set (fM.set fA.1) (by omega) (i := 0) (v := .bool true)
      have b3 := (HB2.out.set (b := W.heap.size + 1) (i := 0) (v := .int .i64 (p : Nat)) (by omega) fA.1).set (b := W.heap.size + 1 + 1) (i := 0) (v := .bool true) (by omega) fM.1
      generalize (w2.setCell ⟨W.heap.size + 1, 0, none⟩ (.int .i64 (p : Nat))).setCell ⟨W.heap.size + 1 + 1, 0, none⟩ (.bool true) = w4 at *
      simp [Leaves, settle, results, Tryz.results36, go_sem, e3, a3, m3]
      exact ⟨rfl, r3, b3⟩
    | err c =>
      go_wp2_with fail
      refine leaves_cons (f := 56) (args := #[.pointer (some ⟨W.heap.size + 1, 0, none⟩), .pointer (some ⟨W.heap.size + 1 + 1, 0, none⟩), .pointer (some ⟨W.heap.size, 0, none⟩)]) (by simp) (by simp [go_sem]) ?_
      refine (int_recovers.err (W.heap.size + 1) (W.heap.size + 1 + 1) (W.heap.size) c [] _ _ (hE.1 0 (by omega)) (hE.2 0)).mono ?_
      rintro e u' w3 ⟨rfl, rfl, rfl⟩
      have a3 := (hA.set (B := W.heap.size) (i := 0) (v := .int .i64 (c : Nat)) (by omega)).1 0 (by omega)
      have m3 := (hM.set (B := W.heap.size) (i := 0) (v := .int .i64 (c : Nat)) (by omega)).1 0 (by omega)
      have e3 : (w2.setCell ⟨W.heap.size, 0, none⟩ (.int .i64 (c : Nat))).cell? ⟨W.heap.size, 0, none⟩ = some (.int .i64 c) := World.cell?_setCell_same' _ _ _ (by rw [hE.1 0 (by omega)]; rfl)
      have r3 := h2.set fE (by omega) (i := 0) (v := .int .i64 (c : Nat))
      have b3 := HB2.out.set (b := W.heap.size) (i := 0) (v := .int .i64 (c : Nat)) (by omega) fE.1
      generalize w2.setCell ⟨W.heap.size, 0, none⟩ (.int .i64 (c : Nat)) = w4 at *
      simp [Leaves, settle, results, Tryz.results36, go_sem, e3, a3, m3]
      exact ⟨rfl, r3, b3⟩
  | val t l =>
    have hc := reads_val HRD.out rfl
    unfold encLn1 at hc
    have HC := Lib.hid hc
    clear HRD hc
    go_wp2_with fail
    refine HC.out.mono ?_
    rintro e w2 ⟨rfl, h2, hb2⟩
    have hE := HCE.out.rb hb2 (by omega) (HF.out _ (by omega))
    have hA := HCA.out.rb hb2 (by omega) (HF.out _ (by omega))
    have hM := HCM.out.rb hb2 (by omega) (HF.out _ (by omega))
    have fE := (hb2.keep (W.heap.size) (by omega) (HF.out _ (by omega))).2
    have fA := (hb2.keep (W.heap.size + 1) (by omega) (HF.out _ (by omega))).2
    have fM := (hb2.keep (W.heap.size + 1 + 1) (by omega) (HF.out _ (by omega))).2
    have HB2 := Lib.hid (HB0.out.trans (hb2.mono (by omega)))
    clear hb2 HC HF HCE HCA HCM
    obtain ⟨w3, hw3⟩ : ∃ w3, w2 = w3 := ⟨_, rfl⟩
    have hE3 : CellsAt w3 (W.heap.size) 1 (fun _ => .int .i64 0) := by rw [← hw3]; exact hE
    have hA3 : CellsAt w3 (W.heap.size + 1) 1 (fun _ => .int .i64 0) := by rw [← hw3]; exact hA
    have hM3 : CellsAt w3 (W.heap.size + 1 + 1) 1 (fun _ => .bool false) := by rw [← hw3]; exact hM
    have h3 : RdAt R FA nf cf fed l w3 := by rw [← hw3]; exact h2
    have fE3 : FreeAt R w3 (W.heap.size) := by rw [← hw3]; exact fE
    have fA3 : FreeAt R w3 (W.heap.size + 1) := by rw [← hw3]; exact fA
    have fM3 : FreeAt R w3 (W.heap.size + 1 + 1) := by rw [← hw3]; exact fM
    have HB3 : Hid (RB R W.heap.size W w3) := by rw [Hid, ← hw3]; exact HB2.out
    have e0 := hE3.1 0 (by omega)
    have ef := hE3.2 0
    have a0 : w3.cell? ⟨W.heap.size + 1, 0, none⟩ = some (.int .i64 0) := hA3.1 0 (by omega)
    have af : w3.frozen? ⟨W.heap.size + 1, 0, none⟩ = false := hA3.2 0
    have m0 : w3.cell? ⟨W.heap.size + 1 + 1, 0, none⟩ = some (.bool false) := hM3.1 0 (by omega)
    have mf : w3.frozen? ⟨W.heap.size + 1 + 1, 0, none⟩ = false := hM3.2 0
    rw [hw3]
    clear hE hA hM
    go_wp2_with fail
    obtain ⟨w4, hw4⟩ : ∃ w4, (((w3.setCell ⟨W.heap.size, 0, none⟩ (.int .i64 0)).setCell ⟨W.heap.size + 1, 0, none⟩ (.int .i64 0)).setCell ⟨W.heap.size + 1 + 1, 0, none⟩ (.bool false)) = w4 := ⟨_, rfl⟩
    have e4 : w4.cell? ⟨W.heap.size, 0, none⟩ = some (.int .i64 0) := by
      rw [← hw4, World.cell?_setCell_other _ _ _ _ (by intro e; injection e with e; omega), World.cell?_setCell_other _ _ _ _ (by intro e; injection e with e; omega)]
      exact World.cell?_setCell_same' _ _ _ (by rw [e0]; rfl)
    have a4 : w4.cell? ⟨W.heap.size + 1, 0, none⟩ = some (.int .i64 0) := by
      rw [← hw4, World.cell?_setCell_other _ _ _ _ (by intro e; injection e with e; omega)]
      exact World.cell?_setCell_same' _ _ _ (by rw [World.cell?_setCell_other _ _ _ _ (by intro e; injection e with e; omega), a0]; rfl)
    have m4 : w4.cell? ⟨W.heap.size + 1 + 1, 0, none⟩ = some (.bool false) := by
      rw [← hw4]
      exact World.cell?_setCell_same' _ _ _ (by rw [World.cell?_setCell_other _ _ _ _ (by intro e; injection e with e; omega), World.cell?_setCell_other _ _ _ _ (by intro e; injection e with e; omega), m0]; rfl)
    have r4 : RdAt R FA nf cf fed l w4 := by
      rw [← hw4]
      exact ((h3.set fE3 (by omega)).set (fA3.set fE3.1) (by show R ≤ W.heap.size + 1; omega)).set ((fM3.set fE3.1).set fA3.1) (by show R ≤ W.heap.size + 1 + 1; omega)
    have b4 : RB R W.heap.size W w4 := by
      rw [← hw4]
      exact ((HB3.out.set (by omega) fE3.1).set (by omega) fA3.1).set (by omega) fM3.1
    rw [hw4]
    clear hw4 hw3
    refine leaves_cons (f := 56) (args := #[.pointer (some ⟨W.heap.size + 1, 0, none⟩), .pointer (some ⟨W.heap.size + 1 + 1, 0, none⟩), .pointer (some ⟨W.heap.size, 0, none⟩)]) (by simp) (by simp [go_sem]) ?_
    refine (int_recovers.idle _ _ _ _).mono ?_
    rintro e u' w5 ⟨rfl, rfl, rfl⟩
    simp [Leaves, settle, results, Tryz.results36, go_sem, e4, a4, m4]
    exact ⟨rfl, r4, b4⟩
end Go.Proofs.YtdlblbhmeidhbaaGreatDoor
