/- Contracts of the model's acts that change a tree: simple, changed. Contracts of the model's acts by which a file's bytes are others. Conditions: none. -/
import Derived.Test.YtibpagmpdgflmaaGreatDoorZYG
import Derived.Test.YtibpagmpdgflmaaGreatDoorZY3
import Derived.Test.YtibpagmpdgflmaaGreatDoorZYA
import Derived.Test.YtibpagmpdgflmaaGreatDoorZFV
namespace Go.Proofs.YtibpagmpdgflmaaGreatDoor
open Go.RowKit Go.Maps Go.WideMaps
attribute [local go_sem] Oper.semAt_some

set_option maxRecDepth 100000 in
set_option maxHeartbeats 4000000 in
theorem simple1_any (fn : FuncId) (T root N X R : Nat) (g : GrP) (Rel : Int → GrP → Prop) (k : Int) (p d : ByteArray) (a n : Int) (A : Option Addr) (m c : Nat) (W : World) (h : TrAt W T root N g)
    (hent : ∀ args w, (callFunc fn args).run Tryz.prog w = .ok (.enter fn args) w) (hX : W.cell? ⟨X, 0, none⟩ = some (.func (.func fn) #[] #[]))
    (HDO : ∀ w, Below W.heap.size W w → TrAt w T root N g → Calls Tryz.prog fn #[.pointer (some ⟨T, 0, none⟩), opV k p d a n A m c] w (ToldT T root N g Rel w)) :
    Calls Tryz.prog 135 #[.pointer (some ⟨T, 0, none⟩), opV k p d a n A m c, .pointer (some ⟨R, 0, none⟩), .pointer (some ⟨X, 0, none⟩)] W (ChangeT T root N g Rel W) := by
  obtain ⟨W0, hW0⟩ : ∃ W0, W.alloc (.cells #[.int .i64 k, .string p, .string d, .int .i64 a, .int .i64 n, .slice A m c] 32) = W0 := ⟨_, rfl⟩
  have hb0 : Below W.heap.size W W0 := by rw [← hW0]; exact (Below.refl _ _).alloc (Nat.le_refl _) _
  have hXl := World.block_lt_of_cell? W ⟨X, 0, none⟩ hX
  have hX0 : W0.cell? ⟨X, 0, none⟩ = some (.func (.func fn) #[] #[]) := (hb0.cell (p := ⟨X, 0, none⟩) hXl).trans hX
  have x0 : W0.cell? ⟨W.heap.size, 0, none⟩ = some (.int .i64 k) := by rw [← hW0]; exact cell_new _ _ _ 0 _ rfl
  have x1 : W0.cell? ⟨W.heap.size, 1, none⟩ = some (.string p) := by rw [← hW0]; exact cell_new _ _ _ 1 _ rfl
  have x2 : W0.cell? ⟨W.heap.size, 2, none⟩ = some (.string d) := by rw [← hW0]; exact cell_new _ _ _ 2 _ rfl
  have x3 : W0.cell? ⟨W.heap.size, 3, none⟩ = some (.int .i64 a) := by rw [← hW0]; exact cell_new _ _ _ 3 _ rfl
  have x4 : W0.cell? ⟨W.heap.size, 4, none⟩ = some (.int .i64 n) := by rw [← hW0]; exact cell_new _ _ _ 4 _ rfl
  have x5 : W0.cell? ⟨W.heap.size, 5, none⟩ = some (.slice A m c) := by rw [← hW0]; exact cell_new _ _ _ 5 _ rfl
  have HD := Lib.hid (HDO W0 hb0 (h.below hb0))
  have HF := Lib.hid fine_any
  have HB0 := Lib.hid hb0
  clear HDO h hb0
  unfold opV at *
  go_enter Tryz.func135, Tryz.ntmps135
  go_wp2_with fail
  refine HD.out.mono ?_
  rintro e w2 ⟨z, g', rfl, ht, hr⟩
  have HZ : Hid (ChangeT T root N g Rel W (unitOr z) w2) := ⟨z, g', rfl, (ht.front HB0.out).base_ HB0.out.size, hr⟩
  clear ht hr
  unfold unitOr at HZ
  by_cases hz : z = 0
  · subst hz
    rw [if_pos rfl] at HZ
    go_wp2_with (go_at_call 55; refine (HF.out _ _).mono ?_; rintro e w3 ⟨rfl, rfl⟩)
    go_end0
    exact HZ.out
  · rw [if_neg hz] at HZ
    have HF2 : Hid (∀ w, Calls Tryz.prog 55 #[.int .i64 z] w fun e W' => e = .panicked [errE z] ∧ W' = w) := fun w => by
      refine (HF.out z w).mono ?_
      rintro e w' ⟨he, rfl⟩
      rw [if_neg hz] at he
      exact ⟨he, rfl⟩
    go_wp2_with (go_at_call 55; refine (HF2.out _).mono ?_; rintro e w3 ⟨rfl, rfl⟩)
    exact ⟨rfl, HZ.out⟩
set_option maxRecDepth 100000 in
theorem acts2_any (T root N : Nat) (g : GrP) (k : Int) (p d : ByteArray) (a n : Int) (A : Option Addr) (m c : Nat) (W : World) (hp : p.size < 4294967281) (h : TrAt W T root N g) (hN : N ≤ 1000000) :
    Calls Tryz.prog 92 #[.pointer (some ⟨T, 0, none⟩), opV k p d a n A m c] W (ToldT T root N g (PathT (bytesOf p) g (MadeG g root 1 (bytesOf p))) W) := by
  have hb0 : Below W.heap.size W (W.alloc (.cells #[.int .i64 k, .string p, .string d, .int .i64 a, .int .i64 n, .slice A m c] 32)) := (Below.refl _ _).alloc (Nat.le_refl _) _
  have HM := Lib.hid (tmake_any T root N g 1 p _ hp (h.below hb0) hN)
  unfold opV
  go_enter Tryz.func92, Tryz.ntmps92
  go_wp2_with (go_at_call 93; refine HM.out.mono ?_; rintro e w2 ⟨z, g', rfl, ht, hr⟩; have HT := Lib.hid ht; have HR := Lib.hid hr; clear ht hr)
  go_ret
  exact ⟨z, g', rfl, (HT.out.front hb0).base_ hb0.size, HR.out⟩
set_option maxRecDepth 100000 in
theorem acts3_any (T root N : Nat) (g : GrP) (k : Int) (p d : ByteArray) (a n : Int) (A : Option Addr) (m c : Nat) (W : World) (hp : p.size < 4294967281) (h : TrAt W T root N g) (hN : N ≤ 1000000) :
    Calls Tryz.prog 94 #[.pointer (some ⟨T, 0, none⟩), opV k p d a n A m c] W (ToldT T root N g (PathT (bytesOf p) g (MadeG g root 2 (bytesOf p))) W) := by
  have hb0 : Below W.heap.size W (W.alloc (.cells #[.int .i64 k, .string p, .string d, .int .i64 a, .int .i64 n, .slice A m c] 32)) := (Below.refl _ _).alloc (Nat.le_refl _) _
  have HM := Lib.hid (tmake_any T root N g 2 p _ hp (h.below hb0) hN)
  unfold opV
  go_enter Tryz.func94, Tryz.ntmps94
  go_wp2_with (go_at_call 93; refine HM.out.mono ?_; rintro e w2 ⟨z, g', rfl, ht, hr⟩; have HT := Lib.hid ht; have HR := Lib.hid hr; clear ht hr)
  go_ret
  exact ⟨z, g', rfl, (HT.out.front hb0).base_ hb0.size, HR.out⟩
set_option maxRecDepth 100000 in
theorem acts7_any (T root N : Nat) (g : GrP) (k : Int) (p d : ByteArray) (a n : Int) (A : Option Addr) (m c : Nat) (W : World) (hp : p.size < 4294967281) (hd : d.size < 4294967281) (h : TrAt W T root N g) (hN : N ≤ 1000000) :
    Calls Tryz.prog 101 #[.pointer (some ⟨T, 0, none⟩), opV k p d a n A m c] W (ToldT T root N g (Path2T (bytesOf p) (bytesOf d) g (LinkG g root (bytesOf p) (bytesOf d))) W) := by
  have hb0 : Below W.heap.size W (W.alloc (.cells #[.int .i64 k, .string p, .string d, .int .i64 a, .int .i64 n, .slice A m c] 32)) := (Below.refl _ _).alloc (Nat.le_refl _) _
  have HM := Lib.hid (tlink_any T root N g p d _ hp hd (h.below hb0) hN)
  unfold opV
  go_enter Tryz.func101, Tryz.ntmps101
  go_wp2_with (go_at_call 102; refine HM.out.mono ?_; rintro e w2 ⟨z, g', rfl, ht, hr⟩; have HT := Lib.hid ht; have HR := Lib.hid hr; clear ht hr)
  go_ret
  exact ⟨z, g', rfl, (HT.out.front hb0).base_ hb0.size, HR.out⟩
end Go.Proofs.YtibpagmpdgflmaaGreatDoor

namespace Go.Proofs.YtibpagmpdgflmaaGreatDoor
open Go.RowKit Go.Maps Go.WideMaps
attribute [local go_sem] Oper.semAt_some

/-- What other bytes are told. -/
def ToR (zf : List UInt8 → Int) (out : List UInt8 → List UInt8) (bs : List UInt8) (W : World) (e : Ending) (W' : World) : Prop :=
  ((zf bs = 0 → ∃ A' k' c', e = .returned (.tuple #[.slice A' k' c', .int .i64 0]) ∧ (out bs).length = k' ∧ k' ≤ 448 ∧ RowAt W' A' ((out bs).map encB) ∧ FreshA W.heap.size A') ∧ (zf bs ≠ 0 → e = .returned (.tuple #[.slice none 0 0, .int .i64 (zf bs)]))) ∧ Below W.heap.size W W'
def ChangedG (g : GrP) (root : Nat) (p : List UInt8) (zf : List UInt8 → Int) (out : List UInt8 → List UInt8) (c : Int) (g' : GrP) : Prop :=
  (errAt offB g root p ≠ 0 → c = errAt offB g root p ∧ g' = g) ∧
  (errAt offB g root p = 0 → ∃ nd, g (nodeAt g root p) = some nd ∧ (zf nd.bytes ≠ 0 → c = zf nd.bytes ∧ g' = g) ∧ (zf nd.bytes = 0 → PathT p g (PutG g root p (out nd.bytes)) c g'))
theorem fine_no {c : Int} (hc : c ≠ 0) (W : World) : Calls Tryz.prog 55 #[.int .i64 c] W fun e W' => e = .panicked [errE c] ∧ W' = W := by
  refine (fine_any c W).mono ?_
  rintro e w' ⟨he, rfl⟩
  rw [if_neg hc] at he
  exact ⟨he, rfl⟩
theorem fine_yes (W : World) : Calls Tryz.prog 55 #[.int .i64 0] W fun e W' => e = .returned (.tuple #[]) ∧ W' = W := by
  refine (fine_any 0 W).mono ?_
  rintro e w' ⟨he, rfl⟩
  exact ⟨he, rfl⟩
set_option maxRecDepth 100000 in
set_option maxHeartbeats 8000000 in
theorem changed1_any (fn : FuncId) (T root N X R : Nat) (g : GrP) (zf : List UInt8 → Int) (out : List UInt8 → List UInt8) (k : Int) (p d : ByteArray) (a n : Int) (A : Option Addr) (m c : Nat) (W : World) (hp : p.size < 4294967281) (h : TrAt W T root N g) (hN : N ≤ 1000000)
    (hent : ∀ args w, (callFunc fn args).run Tryz.prog w = .ok (.enter fn args) w) (hX : W.cell? ⟨X, 0, none⟩ = some (.func (.func fn) #[] #[]))
    (HTO : ∀ (bs : List UInt8) (A1 : Option Addr) (k1 c1 : Nat) (w : World), Below W.heap.size W w → bs.length = k1 → k1 ≤ 448 → PlainA A1 → RowAt w A1 (bs.map encB) → Calls Tryz.prog fn #[.slice A1 k1 c1, opV k p d a n A m c] w (ToR zf out bs w)) :
    Calls Tryz.prog 152 #[.pointer (some ⟨T, 0, none⟩), opV k p d a n A m c, .pointer (some ⟨R, 0, none⟩), .pointer (some ⟨X, 0, none⟩)] W (ChangeT T root N g (ChangedG g root (bytesOf p) zf out) W) := by
  obtain ⟨W0, hW0⟩ : ∃ W0, W.alloc (.cells #[.int .i64 k, .string p, .string d, .int .i64 a, .int .i64 n, .slice A m c] 32) = W0 := ⟨_, rfl⟩
  have hb0 : Below W.heap.size W W0 := by rw [← hW0]; exact (Below.refl _ _).alloc (Nat.le_refl _) _
  have hs0 : W0.heap.size = W.heap.size + 1 := by rw [← hW0]; simp
  have hXl := World.block_lt_of_cell? W ⟨X, 0, none⟩ hX
  have hX0 : W0.cell? ⟨X, 0, none⟩ = some (.func (.func fn) #[] #[]) := (hb0.cell (p := ⟨X, 0, none⟩) hXl).trans hX
  have HC : Hid (CellsAt W0 W.heap.size 6 (cellsOp k p d a n A m c)) := by
    rw [Hid, ← hW0]; exact cellsAt_new _ _ _ _ _ fun i hi => match i, hi with | 0, _ => rfl | 1, _ => rfl | 2, _ => rfl | 3, _ => rfl | 4, _ => rfl | 5, _ => rfl
  have x1 : W0.cell? ⟨W.heap.size, 1, none⟩ = some (.string p) := HC.out.1 1 (by omega)
  have hT0 := h.below hb0
  have HBY := Lib.hid (bytesT_any g T root p W0 hp hT0.nodes hT0.rt hT0.tc (hT0.few.more hN))
  unfold FoundR at HBY
  have HF := Lib.hid (fun c hc W => fine_no (c := c) hc W)
  have HF0 := Lib.hid (fun W => fine_yes W)
  have HB0 := Lib.hid hb0
  have HTR := Lib.hid hT0
  have HTO2 := Lib.hid HTO
  clear HTO h hb0 hT0
  by_cases hz : errAt offB g root (bytesOf p) = 0
  · have HBY2 : Hid (Calls Tryz.prog 125 #[.pointer (some ⟨T, 0, none⟩), .string p] W0 fun e w2 => ∃ nd A1 k1 c1, e = .returned (.tuple #[.slice A1 k1 c1, .int .i64 0]) ∧ g (nodeAt g root (bytesOf p)) = some nd ∧ nd.bytes.length = k1 ∧ RowAt w2 A1 (nd.bytes.map encB) ∧ PlainA A1 ∧ Below W0.heap.size W0 w2) := by
      refine HBY.out.mono ?_
      rintro e w2 ⟨v, rfl, h1, _, hb⟩
      obtain ⟨nd, hg, A1, k1, c1, rfl, q1, q2, q3, q4, q5⟩ := h1 hz
      exact ⟨nd, A1, k1, c1, by rw [hz], hg, q1, q4, q5.1.plain, hb⟩
    clear HBY
    unfold opV at HTO2 ⊢
    go_enter Tryz.func152, Tryz.ntmps152
    go_wp2_with (first
      | (go_at_call 125; refine HBY2.out.mono ?_; rintro e w2 ⟨nd, A1, k1, c1, rfl, hg, hl, hr, hpl, hb2⟩; have HG := Lib.hid hg; have HR := Lib.hid hr; have HPL := Lib.hid hpl; have HB2 := Lib.hid hb2; clear hg hr hpl hb2)
      | (go_at_call 55; refine (HF0.out _).mono ?_; rintro e w3 ⟨rfl, rfl⟩; have hX2 := (HB2.out.cell (p := ⟨X, 0, none⟩) (by show X < W0.heap.size; omega)).trans hX0; have hC2 := HC.out.below HB2.out (by omega); have y0 := hC2.1 0 (by omega); have y1 := hC2.1 1 (by omega); have y2 := hC2.1 2 (by omega); have y3 := hC2.1 3 (by omega); have y4 := hC2.1 4 (by omega); have y5 := hC2.1 5 (by omega); have HC2 := Lib.hid hC2; clear hC2))
    have hlow := (HTR.out.few.2 _ nd HG.out).1
    have hBW : Below W.heap.size W w3 := HB0.out.trans (HB2.out.mono (by omega))
    refine (HTO2.out nd.bytes A1 k1 c1 w3 hBW hl (by omega) HPL.out HR.out).mono ?_
    rintro e w4 ⟨⟨h1, h2⟩, hb4⟩
    have hC4 := HC2.out.below hb4 (by have := HB2.out.size; omega)
    have v1 : w4.cell? ⟨W.heap.size, 1, none⟩ = some (.string p) := hC4.1 1 (by omega)
    have hT4 := (HTR.out.below HB2.out).below hb4
    have HB4 := Lib.hid (hBW.trans (hb4.mono hBW.size))
    by_cases hzf : zf nd.bytes = 0
    · obtain ⟨A2, k2, c2, rfl, q1, q2, q3, q4⟩ := h1 hzf
      have HPU := Lib.hid (tputb_any T root N g p A2 k2 c2 (out nd.bytes) w4 hp hT4 q1 (by omega) q4.plain q3)
      have HZF := Lib.hid hzf
      clear h1 h2 hb4 hC4 hT4 q1 q2 q3 q4 hzf
      go_wp2_with (first
        | (go_at_call 153; refine HPU.out.mono ?_; rintro e w5 ⟨z, g', rfl, ht, hr⟩; have HT5 := Lib.hid ht; have HR5 := Lib.hid hr; clear ht hr)
        | (go_at_call 55; refine (HF0.out _).mono ?_; rintro e w6 ⟨rfl, rfl⟩))
      have HZ : Hid (ChangeT T root N g (ChangedG g root (bytesOf p) zf out) W (unitOr z) w5) :=
        ⟨z, g', rfl, (HT5.out.front HB4.out).base_ HB4.out.size, fun h => absurd hz h, fun _ => ⟨nd, HG.out, fun h => absurd HZF.out h, fun _ => HR5.out⟩⟩
      unfold unitOr at HZ
      by_cases hz5 : z = 0
      · subst hz5
        rw [if_pos rfl] at HZ
        go_wp2_with (go_at_call 55; refine (HF0.out _).mono ?_; rintro e w6 ⟨rfl, rfl⟩)
        go_end0
        exact HZ.out
      · rw [if_neg hz5] at HZ
        have HFZ := Lib.hid (HF.out z hz5)
        go_wp2_with (go_at_call 55; refine (HFZ.out _).mono ?_; rintro e w6 ⟨rfl, rfl⟩)
        exact ⟨rfl, HZ.out⟩
    · obtain rfl := h2 hzf
      have HZ : Hid (ChangeT T root N g (ChangedG g root (bytesOf p) zf out) W (.panicked [errE (zf nd.bytes)]) w4) :=
        ⟨zf nd.bytes, g, (unitOr_err hzf).symm, (Turn.same HTR.out (Nat.le_succ _) (HB2.out.trans (hb4.mono HB2.out.size))).front HB0.out |>.base_ HB0.out.size, fun h => absurd hz h, fun _ => ⟨nd, HG.out, fun _ => ⟨rfl, rfl⟩, fun h => absurd h hzf⟩⟩
      have HFZ := Lib.hid (HF.out (zf nd.bytes) hzf)
      clear h1 h2 hb4 hC4 hT4
      generalize zf nd.bytes = zz at *
      go_wp2_with (go_at_call 55; refine (HFZ.out _).mono ?_; rintro e w6 ⟨rfl, rfl⟩)
      exact ⟨rfl, HZ.out⟩
  · have HFZ := Lib.hid (HF.out _ hz)
    have HZ : Hid (∀ w, Below W0.heap.size W0 w → ChangeT T root N g (ChangedG g root (bytesOf p) zf out) W (.panicked [errE (errAt offB g root (bytesOf p))]) w) := fun w hb =>
      ⟨_, g, (unitOr_err hz).symm, ((Turn.same HTR.out (Nat.le_succ _) hb).front HB0.out).base_ HB0.out.size, fun _ => ⟨rfl, rfl⟩, fun h => absurd h hz⟩
    have HBY2 : Hid (Calls Tryz.prog 125 #[.pointer (some ⟨T, 0, none⟩), .string p] W0 fun e w2 => e = .returned (.tuple #[.slice none 0 0, .int .i64 (errAt offB g root (bytesOf p))]) ∧ Below W0.heap.size W0 w2) := by
      refine HBY.out.mono ?_
      rintro e w2 ⟨v, rfl, _, h1, hb⟩
      rw [h1 hz]
      exact ⟨rfl, hb⟩
    clear HBY HF
    unfold opV
    generalize errAt offB g root (bytesOf p) = zz at *
    go_enter Tryz.func152, Tryz.ntmps152
    go_wp2_with (first
      | (go_at_call 125; refine HBY2.out.mono ?_; rintro e w2 ⟨rfl, hb2⟩)
      | (go_at_call 55; refine (HFZ.out _).mono ?_; rintro e w3 ⟨rfl, rfl⟩))
    exact ⟨rfl, HZ.out _ hb2⟩
set_option maxRecDepth 100000 in
theorem acts9_any (k : Int) (p d : ByteArray) (a n : Int) (A : Option Addr) (m c : Nat) (l : List UInt8) (bs : List UInt8) (A1 : Option Addr) (k1 c1 : Nat) (W : World) (hl : l.length = m) (hm : m ≤ maxLen) (hrow : RowAt W A (l.map encB)) (hb : bs.length = k1) (hk : k1 ≤ 448) (hP : PlainA A1) (hr : RowAt W A1 (bs.map encB)) :
    Calls Tryz.prog 106 #[.slice A1 k1 c1, opV k p d a n A m c] W (ToR (fun bs => writeG bs.length a l.length) (fun bs => writeP bs a.toNat l) bs W) := by
  obtain ⟨W0, hW0⟩ : ∃ W0, W.alloc (.cells #[.int .i64 k, .string p, .string d, .int .i64 a, .int .i64 n, .slice A m c] 32) = W0 := ⟨_, rfl⟩
  have hb0 : Below W.heap.size W W0 := by rw [← hW0]; exact (Below.refl _ _).alloc (Nat.le_refl _) _
  have HC : CellsAt W0 W.heap.size 6 (cellsOp k p d a n A m c) := by
    rw [← hW0]; exact cellsAt_new _ _ _ _ _ fun i hi => match i, hi with | 0, _ => rfl | 1, _ => rfl | 2, _ => rfl | 3, _ => rfl | 4, _ => rfl | 5, _ => rfl
  have x3 : W0.cell? ⟨W.heap.size, 3, none⟩ = some (.int .i64 a) := HC.1 3 (by omega)
  have x5 : W0.cell? ⟨W.heap.size, 5, none⟩ = some (.slice A m c) := HC.1 5 (by omega)
  have hw := write_any A1 k1 c1 a bs A m c l W0 hb (by omega) hP (hr.below hb0) hl hm (hrow.below hb0)
  unfold WriteR at hw
  have HW : Hid (Calls Tryz.prog 105 #[.slice A1 k1 c1, .int .i64 a, .slice A m c] W0 fun e w2 => ∃ v z, e = .returned (.tuple #[v, .int .i64 z]) ∧ ToR (fun bs => writeG bs.length a l.length) (fun bs => writeP bs a.toNat l) bs W (.returned (.tuple #[v, .int .i64 z])) w2) := by
    refine hw.mono ?_
    rintro e w2 ⟨he, hb2⟩
    have hB : Below W.heap.size W w2 := hb0.trans (hb2.mono hb0.size)
    by_cases hz : writeG k1 a l.length = 0
    · rw [if_pos hz] at he
      obtain ⟨A', n', c', rfl, h1, h2, h3, h4, h5⟩ := he
      refine ⟨_, _, rfl, ⟨fun _ => ⟨A', n', c', rfl, h1, ?_, h4, h5.mono hb0.size⟩, fun h => absurd (by show writeG bs.length a l.length = 0; rw [hb]; exact hz) h⟩, hB⟩
      rw [← h1]
      unfold writeG at hz
      by_cases hln : l = []
      · rw [hln, show writeP bs a.toNat [] = bs from if_pos rfl]; omega
      · rw [writeP_length _ _ _ hln]
        split at hz
        · cases hz
        · split at hz
          · cases hz
          · omega
    · rw [if_neg hz] at he
      subst he
      refine ⟨_, _, rfl, ⟨fun h => absurd (by rw [← hb]; exact h) hz, fun _ => ?_⟩, hB⟩
      show _ = Ending.returned (.tuple #[.slice none 0 0, .int .i64 (writeG bs.length a l.length)])
      rw [hb]
  have HW0 := Lib.hid hW0
  clear hw hW0 hb0 HC hrow hr
  unfold opV
  go_enter Tryz.func106, Tryz.ntmps106
  go_wp2_with (go_at_call 105; rw [HW0.out]; refine HW.out.mono ?_; rintro e w2 ⟨v, z, rfl, ht⟩; have HT := Lib.hid ht; clear ht)
  go_ret2
  exact HT.out
set_option maxRecDepth 100000 in
theorem acts11_any (k : Int) (p d : ByteArray) (a n : Int) (A : Option Addr) (m c : Nat) (bs : List UInt8) (A1 : Option Addr) (k1 c1 : Nat) (W : World) (hb : bs.length = k1) (hk : k1 ≤ 448) (hP : PlainA A1) (hr : RowAt W A1 (bs.map encB)) :
    Calls Tryz.prog 110 #[.slice A1 k1 c1, opV k p d a n A m c] W (ToR (fun bs => cutG bs.length n) (fun bs => (extP bs n.toNat).take n.toNat) bs W) := by
  obtain ⟨W0, hW0⟩ : ∃ W0, W.alloc (.cells #[.int .i64 k, .string p, .string d, .int .i64 a, .int .i64 n, .slice A m c] 32) = W0 := ⟨_, rfl⟩
  have hb0 : Below W.heap.size W W0 := by rw [← hW0]; exact (Below.refl _ _).alloc (Nat.le_refl _) _
  have HC : CellsAt W0 W.heap.size 6 (cellsOp k p d a n A m c) := by
    rw [← hW0]; exact cellsAt_new _ _ _ _ _ fun i hi => match i, hi with | 0, _ => rfl | 1, _ => rfl | 2, _ => rfl | 3, _ => rfl | 4, _ => rfl | 5, _ => rfl
  have x4 : W0.cell? ⟨W.heap.size, 4, none⟩ = some (.int .i64 n) := HC.1 4 (by omega)
  have hw := cut_any A1 k1 c1 n bs W0 hb (by omega) hP (hr.below hb0)
  unfold CutR at hw
  have HW : Hid (Calls Tryz.prog 109 #[.slice A1 k1 c1, .int .i64 n] W0 fun e w2 => ∃ v z, e = .returned (.tuple #[v, .int .i64 z]) ∧ ToR (fun bs => cutG bs.length n) (fun bs => (extP bs n.toNat).take n.toNat) bs W (.returned (.tuple #[v, .int .i64 z])) w2) := by
    refine hw.mono ?_
    rintro e w2 ⟨he, hb2⟩
    have hB : Below W.heap.size W w2 := hb0.trans (hb2.mono hb0.size)
    by_cases hz : cutG k1 n = 0
    · rw [if_pos hz] at he
      obtain ⟨A', rfl, h4, h5⟩ := he
      have hn : n.toNat ≤ 448 := by
        unfold cutG at hz
        split at hz
        · cases hz
        · split at hz
          · cases hz
          · omega
      refine ⟨_, _, rfl, ⟨fun _ => ⟨A', n.toNat, n.toNat, rfl, ?_, hn, h4, h5.mono hb0.size⟩, fun h => absurd (by show cutG bs.length n = 0; rw [hb]; exact hz) h⟩, hB⟩
      rw [List.length_take, extP_length]
      omega
    · rw [if_neg hz] at he
      subst he
      refine ⟨_, _, rfl, ⟨fun h => absurd (by rw [← hb]; exact h) hz, fun _ => ?_⟩, hB⟩
      show _ = Ending.returned (.tuple #[.slice none 0 0, .int .i64 (cutG bs.length n)])
      rw [hb]
  have HW0 := Lib.hid hW0
  clear hw hW0 hb0 HC hr
  unfold opV
  go_enter Tryz.func110, Tryz.ntmps110
  go_wp2_with (go_at_call 109; rw [HW0.out]; refine HW.out.mono ?_; rintro e w2 ⟨v, z, rfl, ht⟩; have HT := Lib.hid ht; clear ht)
  go_ret2
  exact HT.out
end Go.Proofs.YtibpagmpdgflmaaGreatDoor
