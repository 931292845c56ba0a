/- Contracts of the model's acts that ask: names, bytes. Contracts of the model's none, New, caughtAll, and of what Do defers. The contract of the model's Do, over what its act does. The model's Do, where an operation may not be. Conditions: none. -/
import Derived.Test.YtibpagmpdgflmaaGreatDoorZYI
import Derived.Test.YtibpagmpdgflmaaGreatDoorZY4
namespace Go.Proofs.YtibpagmpdgflmaaGreatDoor
open Go.RowKit Go.Maps Go.WideMaps
attribute [local go_sem] Oper.semAt_some

def resZ : Nat → Value := cellsO' 0 0 0 0 none 0 0 none 0 0
/-- What an act tells that asks. -/
def AskT (T root N : Nat) (g : GrP) (R : Nat) (z : Int) (Val : World → Prop) (W : World) (e : Ending) (W' : World) : Prop := e = unitOr z ∧ Kept (fun b => b = R) W W' ∧ TrAt W' T root N g ∧ (z ≠ 0 → CellsAt W' R 6 resZ) ∧ (z = 0 → Val W')
def NamesV (g : GrP) (root : Nat) (p : List UInt8) (R base : Nat) (W : World) : Prop :=
  ∃ nd m D A k c, g (nodeAt g root p) = some nd ∧ nd.kids = some (m, D) ∧ CellsAt W R 6 (cellsO' 0 0 0 0 A k c none 0 0) ∧ (namesL D).length = k ∧ k ≤ c ∧ c ≤ maxLen ∧ RowAt W A ((namesL D).map fun x => .string (ofBytes x)) ∧ FreshA base A
def BytesV (g : GrP) (root : Nat) (p : List UInt8) (a n R base : Nat) (W : World) : Prop :=
  ∃ nd A k c, g (nodeAt g root p) = some nd ∧ nd.kids = none ∧ CellsAt W R 6 (cellsO' 0 0 0 0 none 0 0 A k c) ∧ ((nd.bytes.drop a).take n).length = k ∧ k ≤ c ∧ c ≤ maxLen ∧ RowAt W A (((nd.bytes.drop a).take n).map encB) ∧ ∀ ad, A = some ad → base ≤ ad.block
theorem acts1_any (R : Nat) (A : Option Addr) (k c : Nat) (W : World) (h : CellsAt W R 6 resZ) :
    Calls Tryz.prog 89 #[.pointer (some ⟨R, 0, none⟩), .slice A k c] W fun e W' => e = .returned (.tuple #[]) ∧ W' = W.setCell ⟨R, 4, none⟩ (.slice A k c) := by
  have c4 : W.cell? ⟨R, 4, none⟩ = some (.slice none 0 0) := h.1 4 (by omega)
  have f4 := h.2 4
  go_enter Tryz.func89, Tryz.ntmps89
  go_wp2
  go_end0
  exact ⟨rfl, rfl⟩
theorem kept_R {R : Nat} {W W0 W1 : World} (h1 : Below W.heap.size W W0) (h2 : Below W0.heap.size W0 W1) (i : Nat) (v : Value) : Kept (fun b => b = R) W (W1.setCell ⟨R, i, none⟩ v) :=
  ((Kept.of_below (S := fun b => b = R) (h1.trans (h2.mono h1.size))).set (p := ⟨R, i, none⟩) (.inl rfl) v)
set_option maxRecDepth 100000 in
set_option maxHeartbeats 8000000 in
theorem told1L_any (T root N X Y R : Nat) (g : GrP) (k : Int) (p d : ByteArray) (a n : Int) (A : Option Addr) (m c : Nat) (W : World) (hp : p.size < 4294967281) (h : TrAt W T root N g) (hN : N ≤ 1000000) (hR : CellsAt W R 6 resZ) (hRG : ¬ inG g R) (hRT : R ≠ T)
    (hX : W.cell? ⟨X, 0, none⟩ = some (.func (.func 88) #[] #[])) (hY : W.cell? ⟨Y, 0, none⟩ = some (.func (.func 89) #[] #[])) :
    Calls Tryz.prog 127 #[.pointer (some ⟨T, 0, none⟩), opV k p d a n A m c, .pointer (some ⟨R, 0, none⟩), .pointer (some ⟨X, 0, none⟩), .pointer (some ⟨Y, 0, none⟩)] W
      (AskT T root N g R (errAt offN g root (bytesOf p)) (NamesV g root (bytesOf p) R W.heap.size) W) := by
  obtain ⟨W0, hW0⟩ : ∃ W0, W.alloc (.cells #[.int .i64 k, .string p, .string d, .int .i64 a, .int .i64 n, .slice A m c] 32) = W0 := ⟨_, rfl⟩
  have hb0 : Below W.heap.size W W0 := by rw [← hW0]; exact (Below.refl _ _).alloc (Nat.le_refl _) _
  have hs0 : W0.heap.size = W.heap.size + 1 := by rw [← hW0]; simp
  have hXl : X < W.heap.size := World.block_lt_of_cell? W ⟨X, 0, none⟩ hX
  have hYl : Y < W.heap.size := World.block_lt_of_cell? W ⟨Y, 0, none⟩ hY
  have hRl : R < W.heap.size := World.block_lt_of_cell? W ⟨R, 0, none⟩ (hR.1 0 (by omega))
  have hX0 := (hb0.cell (p := ⟨X, 0, none⟩) hXl).trans hX
  have hY0 := (hb0.cell (p := ⟨Y, 0, none⟩) hYl).trans hY
  have x1 : W0.cell? ⟨W.heap.size, 1, none⟩ = some (.string p) := by rw [← hW0]; exact cell_new _ _ _ 1 _ rfl
  have hT0 := h.below hb0
  have HTR := Lib.hid hT0
  have HBY := Lib.hid (namesT_any g T root p W0 hp hT0.nodes hT0.rt hT0.tc (hT0.few.more hN))
  unfold FoundR at HBY
  have HF0 := Lib.hid (fun W => fine_yes W)
  have HB0 := Lib.hid hb0
  have HR := Lib.hid (hR.below hb0 hRl)
  have HE1 : ∀ args w, (callFunc 88 args).run Tryz.prog w = .ok (.enter 88 args) w := fun args w => enters_of Tryz.func88 (by kernel_rfl) rfl args w
  have HE2 : ∀ args w, (callFunc 89 args).run Tryz.prog w = .ok (.enter 89 args) w := fun args w => enters_of Tryz.func89 (by kernel_rfl) rfl args w
  clear h hb0 hT0 hR
  by_cases hz : errAt offN g root (bytesOf p) = 0
  · have HBY2 : Hid (Calls Tryz.prog 88 #[.pointer (some ⟨T, 0, none⟩), .string p] W0 fun e w2 => ∃ nd m D A1 k1 c1, e = .returned (.tuple #[.slice A1 k1 c1, .int .i64 0]) ∧ g (nodeAt g root (bytesOf p)) = some nd ∧ nd.kids = some (m, D) ∧ (namesL D).length = k1 ∧ k1 ≤ c1 ∧ c1 ≤ maxLen ∧ RowAt w2 A1 ((namesL D).map fun x => .string (ofBytes x)) ∧ FreshA W0.heap.size A1 ∧ Below W0.heap.size W0 w2) := by
      refine HBY.out.mono ?_
      rintro e w2 ⟨v, rfl, h1, _, hb⟩
      obtain ⟨nd, hg, m, D, A1, k1, c1, q0, rfl, q1, q2, q3, q4, q5⟩ := h1 hz
      exact ⟨nd, m, D, A1, k1, c1, by rw [hz], hg, q0, q1, q2, q3, q4, q5, hb⟩
    have HZ := Lib.hid hz
    rw [hz]
    clear HBY hz
    unfold opV
    go_enter Tryz.func127, Tryz.ntmps127
    go_wp2_with fail
    refine HBY2.out.mono ?_
    rintro e w2 ⟨nd, m2, D, A1, k1, c1, rfl, hg, hk, q1, q2, q3, q4, q5, hb2⟩
    have hY2 := (hb2.cell (p := ⟨Y, 0, none⟩) (by show Y < W0.heap.size; omega)).trans hY0
    have hR2 := HR.out.below hb2 (by omega)
    have HCL := Lib.hid (acts1_any R A1 k1 c1 w2 hR2)
    have HV : Hid (NamesV g root (bytesOf p) R W.heap.size (w2.setCell ⟨R, 4, none⟩ (.slice A1 k1 c1))) := by
      refine ⟨nd, m2, D, A1, k1, c1, hg, hk, cells_congr (hR2.upd (i := 4) (v := .slice A1 k1 c1) (by omega)) fun i hi => match i, hi with | 0, _ => rfl | 1, _ => rfl | 2, _ => rfl | 3, _ => rfl | 4, _ => rfl | 5, _ => rfl, q1, q2, q3, rowS_set (c := .slice none 0 0) (hR2.1 4 (by omega)) (fun x h => by cases h) q4, q5.mono HB0.out.size⟩
    have HK : Hid (Kept (fun b => b = R) W (w2.setCell ⟨R, 4, none⟩ (.slice A1 k1 c1))) := kept_R HB0.out hb2 _ _
    have HTT : Hid (TrAt (w2.setCell ⟨R, 4, none⟩ (.slice A1 k1 c1)) T root N g) := (HTR.out.below hb2).set hRG hRT (c := .slice none 0 0) (hR2.1 4 (by omega)) (slice_not _ _ _)
    have HCC : Hid (CellsAt (w2.setCell ⟨R, 4, none⟩ (.slice A1 k1 c1)) R 6 _) := hR2.upd (i := 4) (v := .slice A1 k1 c1) (by omega)
    clear hg hk q1 q2 q3 q4 q5 hb2 hR2
    go_wp2_with (go_at_call 55; refine (HF0.out _).mono ?_; rintro e w3 ⟨rfl, rfl⟩)
    refine HCL.out.mono ?_
    rintro e w4 ⟨rfl, rfl⟩
    go_wp2_with fail
    go_end0
    exact ⟨rfl, HK.out, HTT.out, fun h => absurd rfl h, fun _ => HV.out⟩
  · have HFZ := Lib.hid (fun W => fine_no hz W)
    have HBY2 : Hid (Calls Tryz.prog 88 #[.pointer (some ⟨T, 0, none⟩), .string p] W0 fun e w2 => e = .returned (.tuple #[.slice none 0 0, .int .i64 (errAt offN g root (bytesOf p))]) ∧ Below W0.heap.size W0 w2) := by
      refine HBY.out.mono ?_
      rintro e w2 ⟨v, rfl, _, h1, hb⟩
      rw [h1 hz]
      exact ⟨rfl, hb⟩
    clear HBY
    have HQ : Hid (∀ w2, Below W0.heap.size W0 w2 → AskT T root N g R (errAt offN g root (bytesOf p)) (NamesV g root (bytesOf p) R W.heap.size) W (.panicked [errE (errAt offN g root (bytesOf p))]) w2) := fun w2 hb => ⟨(unitOr_err hz).symm, .of_below (HB0.out.trans (hb.mono HB0.out.size)), HTR.out.below hb, fun _ => HR.out.below hb (show R < W0.heap.size by omega), fun h => absurd h hz⟩
    unfold opV
    generalize errAt offN g root (bytesOf p) = zz at *
    go_enter Tryz.func127, Tryz.ntmps127
    go_wp2_with fail
    refine HBY2.out.mono ?_
    rintro e w2 ⟨rfl, hb2⟩
    go_wp2_with (go_at_call 55; refine (HFZ.out _).mono ?_; rintro e w3 ⟨rfl, rfl⟩)
    exact ⟨rfl, HQ.out _ hb2⟩
theorem rowB_set {W : World} {X i : Nat} {v c : Value} {A : Option Addr} {bs : List UInt8} (hc : W.cell? ⟨X, i, none⟩ = some c) (hne : ∀ x, c ≠ encB x) (hr : RowAt W A (bs.map encB)) : RowAt (W.setCell ⟨X, i, none⟩ v) A (bs.map encB) := row_set hc hne hr
set_option maxRecDepth 100000 in
set_option maxHeartbeats 8000000 in
theorem read2_any (T root N R : Nat) (g : GrP) (k : Int) (p d : ByteArray) (a n : Nat) (A : Option Addr) (m c : Nat) (W : World) (hp : p.size < 4294967281) (ha : a < 9223372036854775808) (hn : n < 9223372036854775808) (h : TrAt W T root N g) (hN : N ≤ 1000000) (hR : CellsAt W R 6 resZ) (hRG : ¬ inG g R) (hRT : R ≠ T) :
    Calls Tryz.prog 134 #[.pointer (some ⟨T, 0, none⟩), opV k p d a n A m c, .pointer (some ⟨R, 0, none⟩)] W
      (AskT T root N g R (errAt offB g root (bytesOf p)) (BytesV g root (bytesOf p) a n R W.heap.size) W) := by
  obtain ⟨W0, hW0⟩ : ∃ W0, W.alloc (.cells #[.int .i64 k, .string p, .string d, .int .i64 a, .int .i64 n, .slice A m c] 32) = W0 := ⟨_, rfl⟩
  have hb0 : Below W.heap.size W W0 := by rw [← hW0]; exact (Below.refl _ _).alloc (Nat.le_refl _) _
  have hs0 : W0.heap.size = W.heap.size + 1 := by rw [← hW0]; simp
  have hRl : R < W.heap.size := World.block_lt_of_cell? W ⟨R, 0, none⟩ (hR.1 0 (by omega))
  have HC : Hid (CellsAt W0 W.heap.size 6 (cellsOp k p d a n A m c)) := by
    rw [Hid, ← hW0]; exact cellsAt_new _ _ _ _ _ fun i hi => match i, hi with | 0, _ => rfl | 1, _ => rfl | 2, _ => rfl | 3, _ => rfl | 4, _ => rfl | 5, _ => rfl
  have x1 : W0.cell? ⟨W.heap.size, 1, none⟩ = some (.string p) := HC.out.1 1 (by omega)
  have hT0 := h.below hb0
  have HTR := Lib.hid hT0
  have HBY := Lib.hid (bytesT_any g T root p W0 hp hT0.nodes hT0.rt hT0.tc (hT0.few.more hN))
  unfold FoundR at HBY
  have HF0 := Lib.hid (fun W => fine_yes W)
  have HB0 := Lib.hid hb0
  have HR := Lib.hid (hR.below hb0 hRl)
  clear h hb0 hT0 hR
  by_cases hz : errAt offB g root (bytesOf p) = 0
  · have HBY2 : Hid (Calls Tryz.prog 125 #[.pointer (some ⟨T, 0, none⟩), .string p] W0 fun e w2 => ∃ nd A1 k1 c1, e = .returned (.tuple #[.slice A1 k1 c1, .int .i64 0]) ∧ g (nodeAt g root (bytesOf p)) = some nd ∧ nd.bytes.length = k1 ∧ k1 ≤ c1 ∧ c1 ≤ maxLen ∧ RowAt w2 A1 (nd.bytes.map encB) ∧ PlainA A1 ∧ (A1 = none → c1 = 0) ∧ Below W0.heap.size W0 w2) := by
      refine HBY.out.mono ?_
      rintro e w2 ⟨v, rfl, h1, _, hb⟩
      obtain ⟨nd, hg, A1, k1, c1, rfl, q1, q2, q3, q4, q5, q6⟩ := h1 hz
      exact ⟨nd, A1, k1, c1, by rw [hz], hg, q1, q2, q3, q4, q5.plain, q6, hb⟩
    rw [hz]
    clear HBY
    unfold opV
    go_enter Tryz.func134, Tryz.ntmps134
    go_wp2_with (first
      | (go_at_call 125; refine HBY2.out.mono ?_; rintro e w2 ⟨nd, A1, k1, c1, rfl, hg, hl, hkc, hcm, hr, hpl, hnn, hb2⟩; have HG := Lib.hid hg; have HRW := Lib.hid hr; have HPL := Lib.hid hpl; have HNN := Lib.hid hnn; have HB2 := Lib.hid hb2; have hC2 := HC.out.below hb2 (by omega); have y3 : w2.cell? ⟨W.heap.size, 3, none⟩ = some (.int .i64 a) := hC2.1 3 (by omega); have y4 : w2.cell? ⟨W.heap.size, 4, none⟩ = some (.int .i64 n) := hC2.1 4 (by omega); clear hg hr hpl hnn hb2 hC2)
      | (go_at_call 55; refine (HF0.out _).mono ?_; rintro e w3 ⟨rfl, rfl⟩))
    have hlow := (HTR.out.few.2 _ nd HG.out).1
    have hRD : Calls Tryz.prog 133 #[.slice A1 k1 c1, .int .i64 a, .int .i64 n] w3 fun e W' => ∃ v, e = .returned (.tuple #[v, .int .i64 0]) ∧ FreshB w3.heap.size W' ((nd.bytes.drop a).take n) v ∧ Below w3.heap.size w3 W' := by
      rcases HPL.out with rfl | ⟨b, off, rfl⟩
      · have e1 : nd.bytes = [] := by
          cases hb : nd.bytes with
          | nil => rfl
          | cons x l => obtain ⟨_, _, e, _⟩ := HRW.out (by rw [hb]; simp); cases e
        have e2 : k1 = 0 := by rw [← hl, e1]; rfl
        have e3 : c1 = 0 := HNN.out rfl
        subst e2 e3
        rw [e1]
        refine (fileRead_nil a n w3 ha hn).mono ?_
        rintro e w' ⟨v, rfl, h1, h2⟩
        exact ⟨v, rfl, by simpa using h1.out, h2⟩
      · refine (fileRead_any nd.bytes b off k1 c1 a n w3 hl (by omega) hkc hcm ha hn HRW.out).mono ?_
        rintro e w' ⟨v, rfl, h1, h2⟩
        exact ⟨v, rfl, h1.out, h2⟩
    refine hRD.mono ?_
    rintro e w4 ⟨v, rfl, ⟨A4, k4, c4, rfl, q1, q2, q3, q4, q5⟩, hb4⟩
    have hR4 := (HR.out.below HB2.out (by omega)).below hb4 (by have := HB2.out.size; omega)
    have r5 : w4.cell? ⟨R, 5, none⟩ = some (.slice none 0 0) := hR4.1 5 (by omega)
    have f5 := hR4.2 5
    have hbK : nd.kids = none := by
      have h1 := hz
      unfold errAt at h1
      split at h1
      · rename_i h2; exact absurd h1 h2
      · have h3 : g (nodeAt g root (bytesOf p)) = some nd := HG.out
        unfold nodeAt at h3
        split at h1
        · rename_i b hw
          rw [hw] at h3
          simp only at h3
          rw [h3] at h1
          simp only at h1
          unfold offB at h1
          split at h1
          · cases h1
          · rename_i h4
            cases hk : nd.kids with
            | none => rfl
            | some q => rw [hk] at h4; exact absurd rfl h4
        · rename_i x z hne hw
          exact absurd h1 (by
            intro h5
            have : z = 0 := by omega
            subst this
            first | exact hne rfl | exact hne hw | exact hne _ rfl)
    have HV : Hid (BytesV g root (bytesOf p) a n R W.heap.size (w4.setCell ⟨R, 5, none⟩ (.slice A4 k4 c4))) := by
      refine ⟨nd, A4, k4, c4, HG.out, hbK, cells_congr (hR4.upd (i := 5) (v := .slice A4 k4 c4) (by omega)) fun i hi => match i, hi with | 0, _ => rfl | 1, _ => rfl | 2, _ => rfl | 3, _ => rfl | 4, _ => rfl | 5, _ => rfl, q1, q2, q3, rowB_set r5 (slice_not _ _ _) q4, fun ad e => Nat.le_trans (Nat.le_trans HB0.out.size HB2.out.size) (q5 ad e)⟩
    have HK : Hid (Kept (fun b => b = R) W (w4.setCell ⟨R, 5, none⟩ (.slice A4 k4 c4))) := kept_R HB0.out (HB2.out.trans (hb4.mono HB2.out.size)) _ _
    have HTT : Hid (TrAt (w4.setCell ⟨R, 5, none⟩ (.slice A4 k4 c4)) T root N g) := ((HTR.out.below HB2.out).below hb4).set hRG hRT (c := .slice none 0 0) (hR4.1 5 (by omega)) (slice_not _ _ _)
    have HCC : Hid (CellsAt (w4.setCell ⟨R, 5, none⟩ (.slice A4 k4 c4)) R 6 _) := hR4.upd (i := 5) (v := .slice A4 k4 c4) (by omega)
    clear q1 q2 q3 q4 q5 hb4 hR4 hRD hz
    go_wp2_with fail
    go_end0
    exact ⟨rfl, HK.out, HTT.out, fun h => absurd rfl h, fun _ => HV.out⟩
  · have HFZ := Lib.hid (fun W => fine_no hz W)
    have HBY2 : Hid (Calls Tryz.prog 125 #[.pointer (some ⟨T, 0, none⟩), .string p] W0 fun e w2 => e = .returned (.tuple #[.slice none 0 0, .int .i64 (errAt offB g root (bytesOf p))]) ∧ Below W0.heap.size W0 w2) := by
      refine HBY.out.mono ?_
      rintro e w2 ⟨v, rfl, _, h1, hb⟩
      rw [h1 hz]
      exact ⟨rfl, hb⟩
    clear HBY
    have HQ : Hid (∀ w2, Below W0.heap.size W0 w2 → AskT T root N g R (errAt offB g root (bytesOf p)) (BytesV g root (bytesOf p) a n R W.heap.size) W (.panicked [errE (errAt offB g root (bytesOf p))]) w2) := fun w2 hb => ⟨(unitOr_err hz).symm, .of_below (HB0.out.trans (hb.mono HB0.out.size)), HTR.out.below hb, fun _ => HR.out.below hb (show R < W0.heap.size by omega), fun h => absurd h hz⟩
    unfold opV
    generalize errAt offB g root (bytesOf p) = zz at *
    go_enter Tryz.func134, Tryz.ntmps134
    go_wp2_with (first
      | (go_at_call 125; refine HBY2.out.mono ?_; rintro e w2 ⟨rfl, hb2⟩)
      | (go_at_call 55; refine (HFZ.out _).mono ?_; rintro e w3 ⟨rfl, rfl⟩))
    exact ⟨rfl, HQ.out _ hb2⟩
end Go.Proofs.YtibpagmpdgflmaaGreatDoor

namespace Go.Proofs.YtibpagmpdgflmaaGreatDoor
open Go.RowKit Go.Maps
attribute [local go_sem] Oper.semAt_some

theorem mnone_no (M T : Nat) (W : World) (h : W.cell? ⟨M, 0, none⟩ = some (.pointer (some ⟨T, 0, none⟩))) :
    Calls Tryz.prog 41 #[.pointer (some ⟨M, 0, none⟩)] W fun e W' => e = .returned (.bool false) ∧ W' = W := by
  go_enter Tryz.func41, Tryz.ntmps41
  go_wp2
  go_ret
  exact ⟨rfl, rfl⟩
theorem mnew_any (W : World) :
    Calls Tryz.prog 18 #[] W fun e W' => ∃ M T root m, e = .returned (.pointer (some ⟨M, 0, none⟩)) ∧ TrAt W' T root 0 (gNew root m) ∧ W'.cell? ⟨M, 0, none⟩ = some (.pointer (some ⟨T, 0, none⟩)) ∧ ¬ inG (gNew root m) M ∧ W.heap.size ≤ M ∧ (∀ b, inG (gNew root m) b → W.heap.size ≤ b) ∧ Below W.heap.size W W' := by
  have HN := Lib.hid (tnew_any W)
  go_enter Tryz.func18, Tryz.ntmps18
  go_wp2_with (go_at_call 37; refine HN.out.mono ?_; rintro e w2 ⟨rfl, hg, hT, hb⟩)
  go_ret
  have hTl : W.heap.size + 2 < w2.heap.size := World.block_lt_of_cell? w2 ⟨W.heap.size + 2, 0, none⟩ hT
  have hin : ∀ b, inG (gNew (W.heap.size + 1) W.heap.size) b → b = W.heap.size + 1 ∨ b = W.heap.size := fun b hb => by
    rcases hb with hb | ⟨n, nd, D, h1, h2⟩
    · unfold gNew at hb
      split at hb
      · rename_i e; exact .inl e
      · cases hb
    · unfold gNew at h1
      split at h1
      · cases h1; cases h2; exact .inr rfl
      · cases h1
  have hb2 : Below w2.heap.size w2 (w2.alloc (.cells #[.pointer (some ⟨W.heap.size + 2, 0, none⟩)] 67)) := (Below.refl _ _).alloc (Nat.le_refl _) _
  refine ⟨_, W.heap.size + 2, W.heap.size + 1, W.heap.size, rfl, ⟨(hb2.cell (p := ⟨W.heap.size + 2, 0, none⟩) hTl).trans hT, hg.below hb2, fun n n' nd nd' m D D' h1 h2 h3 h4 => ?_, by rw [gNew_root]; rfl, fun e => ?_, fun n nd m D h1 h2 => ?_, fun n nd h1 => ?_⟩, cell_new _ _ _ 0 _ rfl, fun e => ?_, by omega, fun b e => by have := hin b e; omega, hb.trans (hb2.mono (by omega))⟩
  · unfold gNew at h1 h2
    split at h1
    · split at h2
      · rename_i e1 e2; rw [e1, e2]
      · cases h2
    · cases h1
  · rcases hin _ e with e | e <;> omega
  · unfold gNew at h1
    split at h1
    · cases h1; cases h2; exact Nat.le_refl _
    · cases h1
  · unfold gNew at h1
    split at h1
    · cases h1; exact ⟨by simp, by simp⟩
    · cases h1
  · rcases hin _ e with e | e <;> omega
theorem caughtAll_nil (E : Addr) (W : World) : Calls Tryz.prog 39 #[.nilIface, .pointer (some E)] W fun e W' => e = .returned (.tuple #[]) ∧ W' = W := by
  have h1 := nil_no
  go_enter Tryz.func39, Tryz.ntmps39
  go_wp2
  go_end0
  exact ⟨rfl, rfl⟩
theorem caughtAll_err (E : Nat) (c : Int) (e0 : Value) (W : World) (hc : W.cell? ⟨E, 0, none⟩ = some e0) (hf : W.frozen? ⟨E, 0, none⟩ = false) : Calls Tryz.prog 39 #[.iface 22 (.int .i64 c), .pointer (some ⟨E, 0, none⟩)] W fun e W' => e = .returned (.tuple #[]) ∧ W' = W.setCell ⟨E, 0, none⟩ (.int .i64 c) := by
  have h1 := err_yes
  have h2 := err_as
  go_enter Tryz.func39, Tryz.ntmps39
  go_wp2
  go_end0
  exact ⟨rfl, rfl⟩
/-- What Do defers, where nothing was given up. -/
theorem do1_idle (R : Nat) (w : World) : CallsD Tryz.prog 38 #[.pointer (some ⟨R, 0, none⟩)] .returning w fun e u' w' => e = .returned (.tuple #[]) ∧ u' = .returning ∧ Below w.heap.size w w' := by
  refine callsD_of_wpS Tryz.func38 rfl fun c₀ cs hu => ?_
  simp only [Tryz.ntmps38, List.size_toArray, List.length_cons, List.length_nil, Nat.reduceAdd, Nat.reduceSub, Array.replicate_succ, Array.replicate_zero, List.push_toArray, List.append_toArray, List.nil_append, List.cons_append]
  apply wpS_seq
  apply wpS_region
  simp [wpOpsS, go_sem, recoverD, hu, Exit.thenS]
  apply wpS_seq
  apply wpS_region
  simp [wpOpsS, go_sem, recoverD, hu, Exit.thenS]
  refine (caughtAll_nil _ _).mono ?_
  rintro e w2 ⟨rfl, rfl⟩
  simp only [wpOpsS, Exit.thenS]
  refine wpS_of_wp ?_
  have e0 : (w.alloc (.cells #[.int .i64 0] 22)).cell? ⟨w.heap.size, 0, none⟩ = some (.int .i64 0) := cell_new _ _ _ 0 _ rfl
  go_wp2
  cases c₀
  simp_all [bodyPostS, results, Tryz.results38]
  exact (Below.refl _ _).alloc (Nat.le_refl _) _
/-- .. and at an error. -/
theorem do1_err (R : Nat) (c : Int) (older : List PanicEntry) (w : World) (f : Nat → Value) (hc : c ≠ 0) (hR : CellsAt w R 6 f) : CallsD Tryz.prog 38 #[.pointer (some ⟨R, 0, none⟩)] (.panicking (errE c :: older)) w fun e u' w' =>
    e = .returned (.tuple #[]) ∧ u' = .panicking ({ v := .iface 22 (.int .i64 c), recovered := true } :: older) ∧ ∃ w1, Below w.heap.size w w1 ∧ w' = (((((w1.setCell ⟨R, 0, none⟩ (.int .i64 c)).setCell ⟨R, 1, none⟩ (.int .i64 0)).setCell ⟨R, 2, none⟩ (.int .i64 0)).setCell ⟨R, 3, none⟩ (.int .i64 0)).setCell ⟨R, 4, none⟩ (.slice none 0 0)).setCell ⟨R, 5, none⟩ (.slice none 0 0) := by
  have hRl : R < w.heap.size := World.block_lt_of_cell? w ⟨R, 0, none⟩ (hR.1 0 (by omega))
  obtain ⟨w1, hw1⟩ : ∃ w1, (w.alloc (.cells #[.int .i64 0] 22)).setCell ⟨w.heap.size, 0, none⟩ (.int .i64 c) = w1 := ⟨_, rfl⟩
  have hb1 : Below w.heap.size w w1 := by rw [← hw1]; exact ((Below.refl _ _).alloc (Nat.le_refl _) _).setCell (Nat.le_refl _) _
  have e0 : (w.alloc (.cells #[.int .i64 0] 22)).cell? ⟨w.heap.size, 0, none⟩ = some (.int .i64 0) := cell_new _ _ _ 0 _ rfl
  have e1 : w1.cell? ⟨w.heap.size, 0, none⟩ = some (.int .i64 c) := by rw [← hw1]; exact World.cell?_setCell_same' _ _ _ (by rw [e0]; rfl)
  have hR1 := hR.below hb1 hRl
  have r0 := hR1.1 0 (by omega)
  have r1 := hR1.1 1 (by omega)
  have r2 := hR1.1 2 (by omega)
  have r3 := hR1.1 3 (by omega)
  have r4 := hR1.1 4 (by omega)
  have r5 := hR1.1 5 (by omega)
  have f0 := hR1.2 0
  have f1 := hR1.2 1
  have f2 := hR1.2 2
  have f3 := hR1.2 3
  have f4 := hR1.2 4
  have f5 := hR1.2 5
  have HW1 := Lib.hid hw1
  clear hw1
  refine callsD_of_wpS Tryz.func38 rfl fun c₀ cs hu => ?_
  simp only [Tryz.ntmps38, List.size_toArray, List.length_cons, List.length_nil, Nat.reduceAdd, Nat.reduceSub, Array.replicate_succ, Array.replicate_zero, List.push_toArray, List.append_toArray, List.nil_append, List.cons_append]
  apply wpS_seq
  apply wpS_region
  simp [wpOpsS, go_sem, recoverD, hu, Exit.thenS, errE]
  apply wpS_seq
  apply wpS_region
  simp [wpOpsS, go_sem, recoverD, hu, Exit.thenS, errE]
  refine (caughtAll_err _ _ _ _ e0 (by simp)).mono ?_
  rintro e w2 ⟨rfl, rfl⟩
  simp only [wpOpsS, Exit.thenS]
  rw [HW1.out]
  refine wpS_of_wp ?_
  have hcb : (c != 0) = true := by rw [bne_iff_ne]; exact hc
  have hcb2 : (c == 0) = false := by rw [beq_eq_false_iff_ne]; exact hc
  go_wp2
  exact ⟨rfl, _, rfl, .tuple #[], results_none rfl _ _ _, rfl, rfl, w1, hb1, rfl⟩
end Go.Proofs.YtibpagmpdgflmaaGreatDoor

namespace Go.Proofs.YtibpagmpdgflmaaGreatDoor
open Go.RowKit Go.Maps
attribute [local go_sem] Oper.semAt_some

theorem do_put (d : Nat) (h4 : d ≠ 4) (v : Value) (tmps : Array Value) : results Tryz.f19 (tmps.setIfInBounds d v) = results Tryz.f19 tmps := by
  have e4 : (tmps.setIfInBounds d v)[4]? = tmps[4]? := by
    simp [Array.getElem?_setIfInBounds, h4]
  unfold results
  rw [Tryz.results19]
  simp [e4]
theorem do_out (d : Nat) (h4 : d ≠ 4) (v : Value) {R : Ending → World → Prop} (c : List PanicEntry) (a : Act) (w : World) (h : bodyPostD Tryz.prog Tryz.f19 R (.panic c) (a.put (some d) v) w) : bodyPostD Tryz.prog Tryz.f19 R (.panic c) a w :=
  leaves_congr (do_put d h4 v a.tmps) _ _ _ h
/-- A result of an error alone. -/
def resE (c : Int) : Value := resV c 0 0 0 none 0 0 none 0 0
/-- R's cells, as a Kind's act leaves them. -/
abbrev QT := Int → Int → Int → Int → Option Addr → Nat → Nat → Option Addr → Nat → Nat → World → Prop
/-- .. is steady where R is written, and where memory grows. -/
structure Steady (R : Nat) (Q : QT) : Prop where
  set : ∀ c a1 a2 a3 NA nn nc BA bn bc w i old v, Q c a1 a2 a3 NA nn nc BA bn bc w → w.cell? ⟨R, i, none⟩ = some old → (∀ x, old ≠ encB x) → (∀ x, old ≠ .string x) → Q c a1 a2 a3 NA nn nc BA bn bc (w.setCell ⟨R, i, none⟩ v)
  below : ∀ c a1 a2 a3 NA nn nc BA bn bc w w', Q c a1 a2 a3 NA nn nc BA bn bc w → Below w.heap.size w w' → Q c a1 a2 a3 NA nn nc BA bn bc w'
def ClosR (R : Nat) (Q : QT) (e : Ending) (w : World) : Prop := ∃ c a1 a2 a3 NA nn nc BA bn bc, e = unitOr c ∧ CellsAt w R 6 (cellsO' 0 a1 a2 a3 NA nn nc BA bn bc) ∧ Q c a1 a2 a3 NA nn nc BA bn bc w
def DoneR (Q : QT) (e : Ending) (w : World) : Prop := ∃ c a1 a2 a3 NA nn nc BA bn bc, e = .returned (if c = 0 then resV 0 a1 a2 a3 NA nn nc BA bn bc else resE c) ∧ Q c a1 a2 a3 NA nn nc BA bn bc w
theorem cellsO'_notB (a0 a1 a2 a3 : Int) (NA : Option Addr) (nn nc : Nat) (BA : Option Addr) (bn bc i : Nat) (x : UInt8) : cellsO' a0 a1 a2 a3 NA nn nc BA bn bc i ≠ encB x := by
  unfold cellsO' encB
  split <;> (intro h; cases h)
theorem cellsO'_notS (a0 a1 a2 a3 : Int) (NA : Option Addr) (nn nc : Nat) (BA : Option Addr) (bn bc i : Nat) (x : ByteArray) : cellsO' a0 a1 a2 a3 NA nn nc BA bn bc i ≠ .string x := by
  unfold cellsO'
  split <;> (intro h; cases h)
/-- R is written whole. -/
def put6 (w : World) (R : Nat) (a0 a1 a2 a3 : Int) (NA : Option Addr) (nn nc : Nat) (BA : Option Addr) (bn bc : Nat) : World :=
  (((((w.setCell ⟨R, 0, none⟩ (.int .i64 a0)).setCell ⟨R, 1, none⟩ (.int .i64 a1)).setCell ⟨R, 2, none⟩ (.int .i64 a2)).setCell ⟨R, 3, none⟩ (.int .i64 a3)).setCell ⟨R, 4, none⟩ (.slice NA nn nc)).setCell ⟨R, 5, none⟩ (.slice BA bn bc)
theorem put6_cells {w : World} {R : Nat} {f : Nat → Value} (h : CellsAt w R 6 f) (a0 a1 a2 a3 : Int) (NA : Option Addr) (nn nc : Nat) (BA : Option Addr) (bn bc : Nat) : CellsAt (put6 w R a0 a1 a2 a3 NA nn nc BA bn bc) R 6 (cellsO' a0 a1 a2 a3 NA nn nc BA bn bc) :=
  cells_congr ((((((h.upd (i := 0) (v := .int .i64 a0) (by omega)).upd (i := 1) (v := .int .i64 a1) (by omega)).upd (i := 2) (v := .int .i64 a2) (by omega)).upd (i := 3) (v := .int .i64 a3) (by omega)).upd (i := 4) (v := .slice NA nn nc) (by omega)).upd (i := 5) (v := .slice BA bn bc) (by omega)) fun i hi => match i, hi with | 0, _ => rfl | 1, _ => rfl | 2, _ => rfl | 3, _ => rfl | 4, _ => rfl | 5, _ => rfl
theorem put6_below {n R : Nat} {w w' : World} (h : Below n w w') (hn : n ≤ R) (a0 a1 a2 a3 : Int) (NA : Option Addr) (nn nc : Nat) (BA : Option Addr) (bn bc : Nat) : Below n w (put6 w' R a0 a1 a2 a3 NA nn nc BA bn bc) :=
  (((((h.setCell (p := ⟨R, 0, none⟩) hn _).setCell (p := ⟨R, 1, none⟩) hn _).setCell (p := ⟨R, 2, none⟩) hn _).setCell (p := ⟨R, 3, none⟩) hn _).setCell (p := ⟨R, 4, none⟩) hn _).setCell (p := ⟨R, 5, none⟩) hn _
/-- What is steady at six stores. -/
theorem put6_steady {R : Nat} {Q : QT} (hQ : Steady R Q) {c a1 a2 a3 : Int} {NA : Option Addr} {nn nc : Nat} {BA : Option Addr} {bn bc : Nat} {w : World} (h : Q c a1 a2 a3 NA nn nc BA bn bc w) {x0 x1 x2 x3 : Int} {XA : Option Addr} {xn xc : Nat} {YA : Option Addr} {yn yc : Nat} (hc : CellsAt w R 6 (cellsO' x0 x1 x2 x3 XA xn xc YA yn yc))
    (y0 y1 y2 y3 : Int) (UA : Option Addr) (un uc : Nat) (VA : Option Addr) (vn vc : Nat) : Q c a1 a2 a3 NA nn nc BA bn bc (put6 w R y0 y1 y2 y3 UA un uc VA vn vc) := by
  have keep : ∀ (w : World) (f : Nat → Value) (i j : Nat) (v : Value), CellsAt w R 6 f → j < 6 → i ≠ j → (w.setCell ⟨R, i, none⟩ v).cell? ⟨R, j, none⟩ = w.cell? ⟨R, j, none⟩ := fun w f i j v _ _ hij => World.cell?_setCell_other _ _ _ _ (by intro e; injection e with _ e; exact hij e)
  have nb := cellsO'_notB x0 x1 x2 x3 XA xn xc YA yn yc
  have ns := cellsO'_notS x0 x1 x2 x3 XA xn xc YA yn yc
  have q0 := hQ.set _ _ _ _ _ _ _ _ _ _ _ 0 _ (.int .i64 y0) h (hc.1 0 (by omega)) (nb 0) (ns 0)
  have h1 := hc.upd (i := 0) (v := .int .i64 y0) (by omega)
  have q1 := hQ.set _ _ _ _ _ _ _ _ _ _ _ 1 _ (.int .i64 y1) q0 (h1.1 1 (by omega)) (nb 1) (ns 1)
  have h2 := h1.upd (i := 1) (v := .int .i64 y1) (by omega)
  have q2 := hQ.set _ _ _ _ _ _ _ _ _ _ _ 2 _ (.int .i64 y2) q1 (h2.1 2 (by omega)) (nb 2) (ns 2)
  have h3 := h2.upd (i := 2) (v := .int .i64 y2) (by omega)
  have q3 := hQ.set _ _ _ _ _ _ _ _ _ _ _ 3 _ (.int .i64 y3) q2 (h3.1 3 (by omega)) (nb 3) (ns 3)
  have h4 := h3.upd (i := 3) (v := .int .i64 y3) (by omega)
  have q4 := hQ.set _ _ _ _ _ _ _ _ _ _ _ 4 _ (.slice UA un uc) q3 (h4.1 4 (by omega)) (nb 4) (ns 4)
  have h5 := h4.upd (i := 4) (v := .slice UA un uc) (by omega)
  exact hQ.set _ _ _ _ _ _ _ _ _ _ _ 5 _ (.slice VA vn vc) q4 (h5.1 5 (by omega)) (nb 5) (ns 5)
set_option maxRecDepth 100000 in
set_option maxHeartbeats 8000000 in
theorem do_gen (M T root N : Nat) (g : GrP) (k : Int) (p d : ByteArray) (a n : Int) (A : Option Addr) (m c : Nat) (bs : List UInt8) (W : World) (hk64 : -9223372036854775808 ≤ k ∧ k < 9223372036854775808) (hp : p.size < 4294967281) (hd : d.size < 4294967281) (hl : bs.length = m) (hm : m ≤ maxLen) (hrow : RowAt W A (bs.map encB)) (ha : a < 9223372036854775808) (hn : n < 9223372036854775808)
    (h : TrAt W T root N g) (hM : W.cell? ⟨M, 0, none⟩ = some (.pointer (some ⟨T, 0, none⟩))) (hz : checkN k (bytesOf p) (bytesOf d) a n m = 0) (Q : QT) (hQ : Steady (W.heap.size + 1) Q)
    (HDO : ∀ dd w, DoAt (W.heap.size + 2) k dd w → Below W.heap.size W w → W.heap.size + 2 ≤ w.heap.size → CellsAt w (W.heap.size + 1) 6 resZ → ∃ clo caps, dd = .func (.func clo) #[] caps ∧ (∀ args w, (callFunc clo args).run Tryz.prog w = .ok (.enter clo args) w) ∧
      Calls Tryz.prog clo (#[.pointer (some ⟨T, 0, none⟩), opV k p d a n A m c, .pointer (some ⟨W.heap.size + 1, 0, none⟩)] ++ caps) w (ClosR (W.heap.size + 1) Q)) :
    Calls Tryz.prog 19 #[.pointer (some ⟨M, 0, none⟩), opV k p d a n A m c] W (DoneR Q) := by
  have hmf : ∀ (fn : Fn) (first cap : Array Value) (w : World), (Instr.makeFunc fn first cap).run Tryz.prog w = .ok (.func fn first cap) w := fun _ _ _ _ => rfl
  have hmx : Tryz.prog.follows .mixedOrders = true := by kernel_rfl
  obtain ⟨W0, hW0⟩ : ∃ W0, (W.alloc (.cells #[.int .i64 k, .string p, .string d, .int .i64 a, .int .i64 n, .slice A m c] 32)).alloc (.cells #[.int .i64 0, .int .i64 0, .int .i64 0, .int .i64 0, .slice none 0 0, .slice none 0 0] 27) = W0 := ⟨_, rfl⟩
  have hb0 : Below W.heap.size W W0 := by rw [← hW0]; exact (((Below.refl _ _).alloc (Nat.le_refl _) _).alloc (by simp) _)
  have hs0 : W0.heap.size = W.heap.size + 2 := by rw [← hW0]; simp
  have HC : Hid (CellsAt W0 W.heap.size 6 (cellsOp k p d a n A m c)) := by
    rw [Hid, ← hW0]
    exact (cellsAt_new W _ _ 6 _ fun i hi => match i, hi with | 0, _ => rfl | 1, _ => rfl | 2, _ => rfl | 3, _ => rfl | 4, _ => rfl | 5, _ => rfl).below (m := W.heap.size + 1) ((Below.refl _ _).alloc (by simp) _) (by omega)
  have HR : Hid (CellsAt W0 (W.heap.size + 1) 6 resZ) := by
    rw [Hid, ← hW0]
    have := cellsAt_new (W.alloc (.cells #[.int .i64 k, .string p, .string d, .int .i64 a, .int .i64 n, .slice A m c] 32)) #[.int .i64 0, .int .i64 0, .int .i64 0, .int .i64 0, .slice none 0 0, .slice none 0 0] 27 6 resZ fun i hi => match i, hi with | 0, _ => rfl | 1, _ => rfl | 2, _ => rfl | 3, _ => rfl | 4, _ => rfl | 5, _ => rfl
    rw [show (W.alloc (.cells #[.int .i64 k, .string p, .string d, .int .i64 a, .int .i64 n, .slice A m c] 32)).heap.size = W.heap.size + 1 from by simp] at this
    exact this
  have hMl : M < W.heap.size := World.block_lt_of_cell? W ⟨M, 0, none⟩ hM
  have hM0 : W0.cell? ⟨M, 0, none⟩ = some (.pointer (some ⟨T, 0, none⟩)) := (hb0.cell (p := ⟨M, 0, none⟩) hMl).trans hM
  have x0 : W0.cell? ⟨W.heap.size, 0, none⟩ = some (.int .i64 k) := HC.out.1 0 (by omega)
  have x1 : W0.cell? ⟨W.heap.size, 1, none⟩ = some (.string p) := HC.out.1 1 (by omega)
  have x2 : W0.cell? ⟨W.heap.size, 2, none⟩ = some (.string d) := HC.out.1 2 (by omega)
  have x3 : W0.cell? ⟨W.heap.size, 3, none⟩ = some (.int .i64 a) := HC.out.1 3 (by omega)
  have x4 : W0.cell? ⟨W.heap.size, 4, none⟩ = some (.int .i64 n) := HC.out.1 4 (by omega)
  have x5 : W0.cell? ⟨W.heap.size, 5, none⟩ = some (.slice A m c) := HC.out.1 5 (by omega)
  have HN := Lib.hid (mnone_no M T W0 hM0)
  have HM := Lib.hid mmust_any
  have hck := checkedA_any k p d a n A m c bs W0 hk64 hp hd hl hm (hrow.below hb0) ha hn
  rw [hz] at hck
  have HCK : Hid (Calls Tryz.prog 34 #[opV k p d a n A m c] W0 fun e w2 => ∃ (two : Bool) (nv dd : Value), e = .returned (.agg #[.bool two, nv, dd]) ∧ Plain1 nv ∧ DoAt (W.heap.size + 2) k dd w2 ∧ Below W0.heap.size W0 w2) := by
    refine hck.mono ?_
    rintro e w2 ⟨h1, h2⟩
    rw [if_pos rfl] at h1
    obtain ⟨two, nv, dd, rfl, hpl, nn, v, t2, n2, q1, q2, q3⟩ := h1
    exact ⟨two, nv, dd, rfl, hpl, ⟨nn, v, t2, n2, by omega, q2, q3⟩, h2⟩
  have HB0 := Lib.hid hb0
  have HW0 := Lib.hid hW0
  have HDO2 := Lib.hid HDO
  have HQ := Lib.hid hQ
  clear hck hW0 hb0 HDO hQ h hrow hz
  unfold opV at HCK HDO2 ⊢
  go_enter_defers Tryz.func19, Tryz.ntmps19
  go_wp2_with (first
    | (go_at_call 41; rw [HW0.out]; refine HN.out.mono ?_; rintro e w2 ⟨rfl, hw2⟩; have HW2 := Lib.hid hw2; clear hw2)
    | (go_at_call 40; refine (HM.out _ _ _).mono ?_; rintro e w3 ⟨rfl, rfl⟩; rw [HW2.out])
    | (go_at_call 34; refine HCK.out.mono ?_; rintro e w4 ⟨two, nv, dd, rfl, hpl, hdo, hb4⟩; obtain ⟨clo, caps, hdd, _, _⟩ := HDO2.out dd w4 hdo (HB0.out.trans (hb4.mono (by omega))) (by have := hb4.size; omega) (HR.out.below hb4 (by omega)); have HDA := Lib.hid hdo; have HB4 := Lib.hid hb4; subst hdd; have nc1 := hpl.cells; have s1 := hpl.store (P := Tryz.prog) (q := ⟨w4.heap.size, 1, none⟩) (w := w4.alloc (.cells #[.bool two, .nilFunc, .nilFunc] 75)) (cell_new _ _ _ 1 _ rfl) (by simp); clear hdo hb4))
  rename_i K hK
  have HK := Lib.hid hK
  clear hK
  obtain ⟨w5, hw5⟩ : ∃ w5, w4.alloc (.cells #[.bool two, nv, .func (.func clo) #[] caps] 75) = w5 := ⟨_, rfl⟩
  have hb5 : Below w4.heap.size w4 w5 := by rw [← hw5]; exact (Below.refl _ _).alloc (Nat.le_refl _) _
  have hB5 : Below W0.heap.size W0 w5 := HB4.out.trans (hb5.mono HB4.out.size)
  have hBW5 : Below W.heap.size W w5 := HB0.out.trans (hB5.mono (by omega))
  have a2 : w5.cell? ⟨w4.heap.size, 2, none⟩ = some (.func (.func clo) #[] caps) := by rw [← hw5]; exact cell_new _ _ _ 2 _ rfl
  have hC5 := HC.out.below hB5 (by omega)
  have hR5 := HR.out.below hB5 (by omega)
  have m5 : w5.cell? ⟨M, 0, none⟩ = some (.pointer (some ⟨T, 0, none⟩)) := (hB5.cell (p := ⟨M, 0, none⟩) (by show M < W0.heap.size; omega)).trans hM0
  have hD5 : DoAt (W.heap.size + 2) k (.func (.func clo) #[] caps) w5.drew := HDA.out.below hb5.drew
  obtain ⟨clo2, caps2, he2, hent, hcall⟩ := HDO2.out _ w5.drew hD5 hBW5.drew (by have := hB5.size; show _ ≤ w5.heap.size; omega) hR5
  injection he2 with e1 _ e3
  injection e1 with e1
  subst e1 e3
  have HCALL := Lib.hid hcall
  rw [hw5]
  have hS0 : w5.drew.cell? ⟨w4.heap.size, 2, none⟩ = some (.func (.func clo) #[] caps) ∧ w5.drew.cell? ⟨M, 0, none⟩ = some (.pointer (some ⟨T, 0, none⟩)) ∧ CellsAt w5.drew W.heap.size 6 (cellsOp k p d a n A m c) := ⟨a2, m5, hC5⟩
  clear hw5 hcall hD5 hR5 hC5 hb5 m5 a2 s1 x0 x1 x2 x3 x4 x5
  refine (wpIn_wide (n := 10)).1 ?_
  refine whichever_region (fun w => w.cell? ⟨w4.heap.size, 2, none⟩ = some (.func (.func clo) #[] caps) ∧ w.cell? ⟨M, 0, none⟩ = some (.pointer (some ⟨T, 0, none⟩)) ∧ CellsAt w W.heap.size 6 (cellsOp k p d a n A m c)) [8] hmx ?_
  refine whichever_take 0 (.pointer (some ⟨w4.heap.size, 2, none⟩)) [1, 8] rfl (by kernel_rfl) (fun _ _ _ h => do_out 13 (by decide) _ _ _ _ h) hS0 (by rfl) (fun w hw => ?_) ?_
  · constructor <;> go_simp
  refine whichever_take 1 (.func (.func clo) #[] caps) [8] rfl (by kernel_rfl) (fun _ _ _ h => do_out 14 (by decide) _ _ _ _ h) hS0 (by rfl) (fun w hw => ?_) ?_
  · have hw1 := hw.1
    constructor <;> go_simp
  refine whichever_take 2 (.pointer (some ⟨M, 0, none⟩)) [3, 4, 5, 6, 8] rfl (by kernel_rfl) (fun _ _ _ h => do_out 15 (by decide) _ _ _ _ h) hS0 (by rfl) (fun w hw => ?_) ?_
  · constructor <;> go_simp
  refine whichever_take 3 (.pointer (some ⟨M, 0, none⟩)) [4, 5, 6, 8] rfl (by kernel_rfl) (fun _ _ _ h => do_out 16 (by decide) _ _ _ _ h) hS0 (by rfl) (fun w hw => ?_) ?_
  · have hw1 := hw.2.1
    constructor <;> go_simp
  refine whichever_take 4 (.pointer (some ⟨M, 0, none⟩)) [5, 6, 8] rfl (by kernel_rfl) (fun _ _ _ h => do_out 17 (by decide) _ _ _ _ h) hS0 (by rfl) (fun w hw => ?_) ?_
  · constructor <;> go_simp
  refine whichever_take 5 (.pointer (some ⟨M, 0, none⟩)) [6, 8] rfl (by kernel_rfl) (fun _ _ _ h => do_out 18 (by decide) _ _ _ _ h) hS0 (by rfl) (fun w hw => ?_) ?_
  · constructor <;> go_simp
  refine whichever_take 6 (.pointer (some ⟨T, 0, none⟩)) [8] rfl (by kernel_rfl) (fun _ _ _ h => do_out 19 (by decide) _ _ _ _ h) hS0 (by rfl) (fun w hw => ?_) ?_
  · have hw1 := hw.2.1
    constructor <;> go_simp
  refine whichever_take 7 (.agg #[.int .i64 k, .string p, .string d, .int .i64 a, .int .i64 n, .slice A m c]) [8] rfl (by kernel_rfl) (fun _ _ _ h => do_out 20 (by decide) _ _ _ _ h) hS0 (by rfl) (fun w hw => ?_) ?_
  · have y0 : w.cell? ⟨W.heap.size, 0, none⟩ = some (.int .i64 k) := hw.2.2.1 0 (by omega)
    have y1 : w.cell? ⟨W.heap.size, 1, none⟩ = some (.string p) := hw.2.2.1 1 (by omega)
    have y2 : w.cell? ⟨W.heap.size, 2, none⟩ = some (.string d) := hw.2.2.1 2 (by omega)
    have y3 : w.cell? ⟨W.heap.size, 3, none⟩ = some (.int .i64 a) := hw.2.2.1 3 (by omega)
    have y4 : w.cell? ⟨W.heap.size, 4, none⟩ = some (.int .i64 n) := hw.2.2.1 4 (by omega)
    have y5 : w.cell? ⟨W.heap.size, 5, none⟩ = some (.slice A m c) := hw.2.2.1 5 (by omega)
    constructor <;> go_simp
  refine whichever_next 8 rfl (by kernel_rfl) (by rfl) ?_
  go_simp
  refine ⟨trivial, callsIn_wide.2 (HCALL.out.mono ?_)⟩
  rintro e w6 ⟨cc, a1, a2, a3, NA, nn, nc, BA, bn, bc, rfl, hR6, hq6⟩
  have HR6 := Lib.hid hR6
  have HQ6 := Lib.hid hq6
  unfold unitOr
  by_cases hcc : cc = 0
  · subst hcc
    rw [if_pos rfl]
    simp only
    refine whichever_end (by kernel_rfl) ?_
    refine HK.out _ _ ?_
    have r0 : w6.cell? ⟨W.heap.size + 1, 0, none⟩ = some (.int .i64 0) := hR6.1 0 (by omega)
    have r1 : w6.cell? ⟨W.heap.size + 1, 1, none⟩ = some (.int .i64 a1) := hR6.1 1 (by omega)
    have r2 : w6.cell? ⟨W.heap.size + 1, 2, none⟩ = some (.int .i64 a2) := hR6.1 2 (by omega)
    have r3 : w6.cell? ⟨W.heap.size + 1, 3, none⟩ = some (.int .i64 a3) := hR6.1 3 (by omega)
    have r4 : w6.cell? ⟨W.heap.size + 1, 4, none⟩ = some (.slice NA nn nc) := hR6.1 4 (by omega)
    have r5 : w6.cell? ⟨W.heap.size + 1, 5, none⟩ = some (.slice BA bn bc) := hR6.1 5 (by omega)
    have f0 := hR6.2 0
    have f1 := hR6.2 1
    have f2 := hR6.2 2
    have f3 := hR6.2 3
    have f4 := hR6.2 4
    have f5 := hR6.2 5
    clear hR6 hq6
    go_wp2_with fail
    refine leaves_cons (f := 38) (args := #[.pointer (some ⟨W.heap.size + 1, 0, none⟩)]) (by simp) (by simp [go_sem]) ?_
    refine (do1_idle _ _).mono ?_
    rintro e u' w7 ⟨rfl, rfl, hb7⟩
    have hq7 : Q 0 a1 a2 a3 NA nn nc BA bn bc (put6 w6 (W.heap.size + 1) 0 a1 a2 a3 NA nn nc BA bn bc) := put6_steady HQ.out HQ6.out HR6.out 0 a1 a2 a3 NA nn nc BA bn bc
    have hc7 := put6_cells HR6.out 0 a1 a2 a3 NA nn nc BA bn bc
    have hl7 : W.heap.size + 1 < (put6 w6 (W.heap.size + 1) 0 a1 a2 a3 NA nn nc BA bn bc).heap.size := World.block_lt_of_cell? _ ⟨W.heap.size + 1, 0, none⟩ (hc7.1 0 (by omega))
    have hq8 := HQ.out.below _ _ _ _ _ _ _ _ _ _ _ w7 hq7 hb7
    have hc8 := hc7.below hb7 hl7
    have v0 : w7.cell? ⟨W.heap.size + 1, 0, none⟩ = some (.int .i64 0) := hc8.1 0 (by omega)
    have v1 : w7.cell? ⟨W.heap.size + 1, 1, none⟩ = some (.int .i64 a1) := hc8.1 1 (by omega)
    have v2 : w7.cell? ⟨W.heap.size + 1, 2, none⟩ = some (.int .i64 a2) := hc8.1 2 (by omega)
    have v3 : w7.cell? ⟨W.heap.size + 1, 3, none⟩ = some (.int .i64 a3) := hc8.1 3 (by omega)
    have v4 : w7.cell? ⟨W.heap.size + 1, 4, none⟩ = some (.slice NA nn nc) := hc8.1 4 (by omega)
    have v5 : w7.cell? ⟨W.heap.size + 1, 5, none⟩ = some (.slice BA bn bc) := hc8.1 5 (by omega)
    clear r0 r1 r2 r3 r4 r5 f0 f1 f2 f3 f4 f5 hb7 hc7 hc8 hq7
    simp [Leaves, settle, results, Tryz.results19, go_sem, v0, v1, v2, v3, v4, v5]
    exact ⟨0, a1, a2, a3, NA, nn, nc, BA, bn, bc, rfl, hq8⟩
  · rw [if_neg hcc]
    simp only
    refine leaves_cons (f := 38) (args := #[.pointer (some ⟨W.heap.size + 1, 0, none⟩)]) (by simp) (by simp [go_sem]) ?_
    refine (do1_err (W.heap.size + 1) cc [] w6 _ hcc hR6).mono ?_
    rintro e u' w7 ⟨rfl, rfl, w1, hb7, rfl⟩
    have hl6 : W.heap.size + 1 < w6.heap.size := World.block_lt_of_cell? w6 ⟨W.heap.size + 1, 0, none⟩ (hR6.1 0 (by omega))
    have hR7 := hR6.below hb7 hl6
    have hq7 := HQ.out.below _ _ _ _ _ _ _ _ _ _ _ w1 hq6 hb7
    have hq8 : Q cc a1 a2 a3 NA nn nc BA bn bc (put6 w1 (W.heap.size + 1) cc 0 0 0 none 0 0 none 0 0) := put6_steady HQ.out hq7 hR7 cc 0 0 0 none 0 0 none 0 0
    have hc8 := put6_cells hR7 cc 0 0 0 none 0 0 none 0 0
    have e8 : (((((w1.setCell ⟨W.heap.size + 1, 0, none⟩ (.int .i64 cc)).setCell ⟨W.heap.size + 1, 1, none⟩ (.int .i64 0)).setCell ⟨W.heap.size + 1, 2, none⟩ (.int .i64 0)).setCell ⟨W.heap.size + 1, 3, none⟩ (.int .i64 0)).setCell ⟨W.heap.size + 1, 4, none⟩ (.slice none 0 0)).setCell ⟨W.heap.size + 1, 5, none⟩ (.slice none 0 0) = put6 w1 (W.heap.size + 1) cc 0 0 0 none 0 0 none 0 0 := rfl
    rw [e8]
    generalize put6 w1 (W.heap.size + 1) cc 0 0 0 none 0 0 none 0 0 = w8 at *
    have v0 : w8.cell? ⟨W.heap.size + 1, 0, none⟩ = some (.int .i64 cc) := hc8.1 0 (by omega)
    have v1 : w8.cell? ⟨W.heap.size + 1, 1, none⟩ = some (.int .i64 0) := hc8.1 1 (by omega)
    have v2 : w8.cell? ⟨W.heap.size + 1, 2, none⟩ = some (.int .i64 0) := hc8.1 2 (by omega)
    have v3 : w8.cell? ⟨W.heap.size + 1, 3, none⟩ = some (.int .i64 0) := hc8.1 3 (by omega)
    have v4 : w8.cell? ⟨W.heap.size + 1, 4, none⟩ = some (.slice none 0 0) := hc8.1 4 (by omega)
    have v5 : w8.cell? ⟨W.heap.size + 1, 5, none⟩ = some (.slice none 0 0) := hc8.1 5 (by omega)
    clear hc8 hR7 hR6 hq6 hq7 e8 hb7
    simp [Leaves, settle, results, Tryz.results19, go_sem, v0, v1, v2, v3, v4, v5]
    exact ⟨cc, a1, a2, a3, NA, nn, nc, BA, bn, bc, by rw [if_neg hcc]; rfl, hq8⟩
end Go.Proofs.YtibpagmpdgflmaaGreatDoor

namespace Go.Proofs.YtibpagmpdgflmaaGreatDoor
open Go.RowKit Go.Maps
attribute [local go_sem] Oper.semAt_some

set_option maxRecDepth 100000 in
set_option maxHeartbeats 8000000 in
theorem do_bad (M T root N : Nat) (g : GrP) (k : Int) (p d : ByteArray) (a n : Int) (A : Option Addr) (m c : Nat) (bs : List UInt8) (W : World) (hk64 : -9223372036854775808 ≤ k ∧ k < 9223372036854775808) (hp : p.size < 4294967281) (hd : d.size < 4294967281) (hl : bs.length = m) (hm : m ≤ maxLen) (hrow : RowAt W A (bs.map encB)) (ha : a < 9223372036854775808) (hn : n < 9223372036854775808)
    (h : TrAt W T root N g) (hM : W.cell? ⟨M, 0, none⟩ = some (.pointer (some ⟨T, 0, none⟩))) (hz : checkN k (bytesOf p) (bytesOf d) a n m ≠ 0) :
    Calls Tryz.prog 19 #[.pointer (some ⟨M, 0, none⟩), opV k p d a n A m c] W fun e W' => e = .returned (resE (checkN k (bytesOf p) (bytesOf d) a n m)) ∧ Below W.heap.size W W' := by
  have hmf : ∀ (fn : Fn) (first cap : Array Value) (w : World), (Instr.makeFunc fn first cap).run Tryz.prog w = .ok (.func fn first cap) w := fun _ _ _ _ => rfl
  obtain ⟨W0, hW0⟩ : ∃ W0, (W.alloc (.cells #[.int .i64 k, .string p, .string d, .int .i64 a, .int .i64 n, .slice A m c] 32)).alloc (.cells #[.int .i64 0, .int .i64 0, .int .i64 0, .int .i64 0, .slice none 0 0, .slice none 0 0] 27) = W0 := ⟨_, rfl⟩
  have hb0 : Below W.heap.size W W0 := by rw [← hW0]; exact (((Below.refl _ _).alloc (Nat.le_refl _) _).alloc (by simp) _)
  have hs0 : W0.heap.size = W.heap.size + 2 := by rw [← hW0]; simp
  have HC : Hid (CellsAt W0 W.heap.size 6 (cellsOp k p d a n A m c)) := by
    rw [Hid, ← hW0]
    exact (cellsAt_new W _ _ 6 _ fun i hi => match i, hi with | 0, _ => rfl | 1, _ => rfl | 2, _ => rfl | 3, _ => rfl | 4, _ => rfl | 5, _ => rfl).below (m := W.heap.size + 1) ((Below.refl _ _).alloc (by simp) _) (by omega)
  have HR : Hid (CellsAt W0 (W.heap.size + 1) 6 resZ) := by
    rw [Hid, ← hW0]
    have := cellsAt_new (W.alloc (.cells #[.int .i64 k, .string p, .string d, .int .i64 a, .int .i64 n, .slice A m c] 32)) #[.int .i64 0, .int .i64 0, .int .i64 0, .int .i64 0, .slice none 0 0, .slice none 0 0] 27 6 resZ fun i hi => match i, hi with | 0, _ => rfl | 1, _ => rfl | 2, _ => rfl | 3, _ => rfl | 4, _ => rfl | 5, _ => rfl
    rw [show (W.alloc (.cells #[.int .i64 k, .string p, .string d, .int .i64 a, .int .i64 n, .slice A m c] 32)).heap.size = W.heap.size + 1 from by simp] at this
    exact this
  have hMl : M < W.heap.size := World.block_lt_of_cell? W ⟨M, 0, none⟩ hM
  have hM0 : W0.cell? ⟨M, 0, none⟩ = some (.pointer (some ⟨T, 0, none⟩)) := (hb0.cell (p := ⟨M, 0, none⟩) hMl).trans hM
  have x0 : W0.cell? ⟨W.heap.size, 0, none⟩ = some (.int .i64 k) := HC.out.1 0 (by omega)
  have x1 : W0.cell? ⟨W.heap.size, 1, none⟩ = some (.string p) := HC.out.1 1 (by omega)
  have x2 : W0.cell? ⟨W.heap.size, 2, none⟩ = some (.string d) := HC.out.1 2 (by omega)
  have x3 : W0.cell? ⟨W.heap.size, 3, none⟩ = some (.int .i64 a) := HC.out.1 3 (by omega)
  have x4 : W0.cell? ⟨W.heap.size, 4, none⟩ = some (.int .i64 n) := HC.out.1 4 (by omega)
  have x5 : W0.cell? ⟨W.heap.size, 5, none⟩ = some (.slice A m c) := HC.out.1 5 (by omega)
  have HN := Lib.hid (mnone_no M T W0 hM0)
  have HM := Lib.hid mmust_any
  have hck := checkedA_any k p d a n A m c bs W0 hk64 hp hd hl hm (hrow.below hb0) ha hn
  obtain ⟨z, hzz⟩ : ∃ z, checkN k (bytesOf p) (bytesOf d) a n m = z := ⟨_, rfl⟩
  rw [hzz] at hck hz ⊢
  have HCK : Hid (Calls Tryz.prog 34 #[opV k p d a n A m c] W0 fun e w2 => e = .panicked [errE z] ∧ Below W0.heap.size W0 w2) := by
    refine hck.mono ?_
    rintro e w2 ⟨h1, h2⟩
    rw [if_neg hz] at h1
    exact ⟨h1, h2⟩
  have HB0 := Lib.hid hb0
  have HW0 := Lib.hid hW0
  clear hck hW0 hb0 h hrow hzz
  unfold opV at HCK ⊢
  go_enter_defers Tryz.func19, Tryz.ntmps19
  go_wp2_with (first
    | (go_at_call 41; rw [HW0.out]; refine HN.out.mono ?_; rintro e w2 ⟨rfl, hw2⟩; have HW2 := Lib.hid hw2; clear hw2)
    | (go_at_call 40; refine (HM.out _ _ _).mono ?_; rintro e w3 ⟨rfl, rfl⟩; rw [HW2.out])
    | (go_at_call 34; refine HCK.out.mono ?_; rintro e w4 ⟨rfl, hb4⟩; have HB4 := Lib.hid hb4; clear hb4))
  have hR4 := HR.out.below HB4.out (by omega)
  have hl6 : W.heap.size + 1 < w4.heap.size := World.block_lt_of_cell? w4 ⟨W.heap.size + 1, 0, none⟩ (hR4.1 0 (by omega))
  refine leaves_cons (f := 38) (args := #[.pointer (some ⟨W.heap.size + 1, 0, none⟩)]) (by simp) (by simp [go_sem]) ?_
  refine (do1_err (W.heap.size + 1) z [] w4 _ hz hR4).mono ?_
  rintro e u' w7 ⟨rfl, rfl, w1, hb7, rfl⟩
  have hR7 := hR4.below hb7 hl6
  have hc8 := put6_cells hR7 z 0 0 0 none 0 0 none 0 0
  have hBB : Below W.heap.size W (put6 w1 (W.heap.size + 1) z 0 0 0 none 0 0 none 0 0) := put6_below ((HB0.out.trans (HB4.out.mono (by omega))).trans (hb7.mono (by have := HB4.out.size; omega))) (Nat.le_succ _) z 0 0 0 none 0 0 none 0 0
  have e8 : (((((w1.setCell ⟨W.heap.size + 1, 0, none⟩ (.int .i64 z)).setCell ⟨W.heap.size + 1, 1, none⟩ (.int .i64 0)).setCell ⟨W.heap.size + 1, 2, none⟩ (.int .i64 0)).setCell ⟨W.heap.size + 1, 3, none⟩ (.int .i64 0)).setCell ⟨W.heap.size + 1, 4, none⟩ (.slice none 0 0)).setCell ⟨W.heap.size + 1, 5, none⟩ (.slice none 0 0) = put6 w1 (W.heap.size + 1) z 0 0 0 none 0 0 none 0 0 := rfl
  rw [e8]
  generalize put6 w1 (W.heap.size + 1) z 0 0 0 none 0 0 none 0 0 = w8 at *
  have v0 : w8.cell? ⟨W.heap.size + 1, 0, none⟩ = some (.int .i64 z) := hc8.1 0 (by omega)
  have v1 : w8.cell? ⟨W.heap.size + 1, 1, none⟩ = some (.int .i64 0) := hc8.1 1 (by omega)
  have v2 : w8.cell? ⟨W.heap.size + 1, 2, none⟩ = some (.int .i64 0) := hc8.1 2 (by omega)
  have v3 : w8.cell? ⟨W.heap.size + 1, 3, none⟩ = some (.int .i64 0) := hc8.1 3 (by omega)
  have v4 : w8.cell? ⟨W.heap.size + 1, 4, none⟩ = some (.slice none 0 0) := hc8.1 4 (by omega)
  have v5 : w8.cell? ⟨W.heap.size + 1, 5, none⟩ = some (.slice none 0 0) := hc8.1 5 (by omega)
  clear hc8 hR7 hR4 e8 hb7 x0 x1 x2 x3 x4 x5 hM0
  simp [Leaves, settle, results, Tryz.results19, go_sem, v0, v1, v2, v3, v4, v5]
  exact ⟨rfl, hBB⟩
end Go.Proofs.YtibpagmpdgflmaaGreatDoor
