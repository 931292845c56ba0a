/- The contract of the model's stat: plain parts, what the loop over the names keeps. The contract of the model's stat. Printed by yp.py. Conditions: none. -/
import Derived.Test.YtibpagmpdgflmaaGreatDoorZYN
import Derived.Test.YtibpagmpdgflmaaGreatDoorZY2
namespace Go.Proofs.YtibpagmpdgflmaaGreatDoor
open Go.RowKit Go.Maps Go.Shelf
attribute [local go_sem] Oper.semAt_some

theorem walkG_some {W : World} {g : GrP} (h : GAt W g) : ∀ (l : List (List UInt8)) (n b : Nat), (g n).isSome → walkG g l n = (b, 0) → (g b).isSome
  | [], n, b, hn, hw => by cases hw; exact hn
  | s :: l, n, b, hn, hw => by
    obtain ⟨nd, hnd⟩ := Option.isSome_iff_exists.1 hn
    rw [walkG, hnd] at hw
    simp only at hw
    cases hk : nd.kids with
    | none => rw [hk] at hw; cases hw
    | some p =>
      obtain ⟨m, D⟩ := p
      rw [hk] at hw
      simp only at hw
      cases hh : Maps.has D (.string s) with
      | false => rw [kidOf_none hh] at hw; cases hw
      | true =>
        obtain ⟨b2, h1, h2, _⟩ := kidOf_some h hnd hk hh
        rw [h1] at hw
        exact walkG_some h l b2 b h2 hw
theorem kindT_errAt (g : GrP) (root : Nat) (s : List UInt8) : (kindT g root s).2 = errAt offL g root s := by
  unfold kindT errAt
  split
  · rfl
  · rcases walkG g (readP s).2 root with ⟨b, z⟩
    cases z with
    | zero =>
      simp only
      cases g b with
      | none => rfl
      | some nd => rfl
    | succ n => rfl
/-- What is told of a node that is there. -/
theorem there_node {W : World} {g : GrP} {root : Nat} {s : List UInt8} (h : GAt W g) (hr : (g root).isSome) (hz : (kindT g root s).2 = 0) :
    ∃ nd, g (nodeAt g root s) = some nd ∧ (kindT g root s).1 = (if nd.kids.isSome then 2 else 1) ∧ errAt offL g root s = 0 ∧ errAt offB g root s = offB nd ∧ errAt offN g root s = offN nd := by
  unfold kindT at hz ⊢
  by_cases h0 : (readP s).1 = 0
  · rw [if_neg (fun e => e h0)] at hz ⊢
    rcases hw : walkG g (readP s).2 root with ⟨b, z⟩
    rw [hw] at hz
    cases z with
    | zero =>
      obtain ⟨nd, hnd⟩ := Option.isSome_iff_exists.1 (walkG_some h _ _ _ hr hw)
      refine ⟨nd, by unfold nodeAt; rw [hw]; exact hnd, by simp only; rw [hnd], ?_, ?_, ?_⟩ <;>
        (unfold errAt; rw [if_neg (fun e => e h0), hw]; simp only; rw [hnd])
      rfl
    | succ n => simp only at hz; omega
  · rw [if_pos h0] at hz
    exact absurd hz h0
/-- W' is w but for R's third cell, and what was laid behind. -/
structure KC (R : Nat) (w W' : World) : Prop where
  os : W'.os = w.os
  tape : W'.tape = w.tape
  output : W'.output = w.output
  size : w.heap.size ≤ W'.heap.size
  block : ∀ b, b < w.heap.size → b ≠ R → W'.heap[b]? = w.heap[b]?
  cell : ∀ i, i ≠ 3 → W'.cell? ⟨R, i, none⟩ = w.cell? ⟨R, i, none⟩
  frz : ∀ i, W'.frozen? ⟨R, i, none⟩ = w.frozen? ⟨R, i, none⟩
theorem KC.refl (R : Nat) (w : World) : KC R w w := ⟨rfl, rfl, rfl, Nat.le_refl _, fun _ _ _ => rfl, fun _ _ => rfl, fun _ => rfl⟩
theorem KC.set {R : Nat} {w W' : World} (h : KC R w W') (v : Value) : KC R w (W'.setCell ⟨R, 3, none⟩ v) :=
  ⟨h.os, h.tape, h.output, by have := h.size; simpa [World.setCell] using this, fun b hb hn => (Below.heap_setCell W' ⟨R, 3, none⟩ v b hn).trans (h.block b hb hn), fun i hi => (World.cell?_setCell_other _ _ _ _ (by intro e; injection e with _ e; exact hi e.symm)).trans (h.cell i hi), fun i => (World.frozen?_setCell _ _ _ _).trans (h.frz i)⟩
theorem KC.grown {R : Nat} {w W' W2 : World} {row : Option Nat} (h : KC R w W') (hR : R < w.heap.size) (hg : W'.grownBy W2 row) (hr : ∀ r, row = some r → w.heap.size ≤ r) : KC R w W2 := by
  have hb : ∀ b, b < w.heap.size → W2.heap[b]? = W'.heap[b]? := fun b hb => hg.block b (Nat.lt_of_lt_of_le hb h.size) (fun e => by have := hr b e.symm; omega)
  exact ⟨hg.os.trans h.os, hg.tape.trans h.tape, hg.output.trans h.output, Nat.le_trans h.size hg.size, fun b hb1 hn => (hb b hb1).trans (h.block b hb1 hn), fun i hi => (World.cell?_of_block (w := W') (hb R hR)).trans (h.cell i hi), fun i => (World.frozen?_of_block (w := W') (hb R hR)).trans (h.frz i)⟩
theorem KC.row {R : Nat} {w W' : World} (h : KC R w W') {c : Value} {A : Option Addr} {bs : List UInt8} (hc : w.cell? ⟨R, 3, none⟩ = some c) (hne : ∀ x, c ≠ encB x) (hr : RowAt w A (bs.map encB)) : RowAt W' A (bs.map encB) := fun hn => by
  obtain ⟨b, off, e, hb, hcs⟩ := hr hn
  refine ⟨b, off, e, Nat.lt_of_lt_of_le hb h.size, fun k u hu => ?_⟩
  by_cases hbR : b = R
  · subst hbR
    by_cases h3 : off + k = 3
    · have h1 := hcs k u hu
      rw [h3, hc] at h1
      injection h1 with h1
      rw [List.getElem?_map] at hu
      cases hx : bs[k]? with
      | none => rw [hx] at hu; cases hu
      | some x => rw [hx] at hu; injection hu with hu; exact absurd (h1.trans hu.symm) (hne x)
    · exact (h.cell _ h3).trans (hcs k u hu)
  · exact (World.cell?_of_block (w := w) (h.block b hb hbR)).trans (hcs k u hu)
theorem TrAt.kc {R T root N : Nat} {g : GrP} {w W' : World} (h : TrAt w T root N g) (k : KC R w W') {c : Value} (hc : w.cell? ⟨R, 3, none⟩ = some c) (hne : ∀ x, c ≠ encB x) (hR : ¬ inG g R) (hT : R ≠ T) : TrAt W' T root N g := by
  refine ⟨(World.cell?_of_block (w := w) (k.block T h.lt (fun e => hT e.symm))).trans h.tc, ⟨fun n nd hn => ?_, h.nodes.kids⟩, h.inj, h.rt, h.out, h.few⟩
  have hN := h.nodes.node n nd hn
  have hnR : n ≠ R := by rintro rfl; exact hR (.inl (by rw [hn]; rfl))
  have hb := k.block n hN.lt hnR
  obtain ⟨A, q, cc, h1, h2, h3, h4, h5, h6⟩ := hN.byt
  have hq : ∀ j, W'.cell? ⟨n, j, none⟩ = w.cell? ⟨n, j, none⟩ := fun j => World.cell?_of_block (w := w) hb
  exact ⟨Nat.lt_of_lt_of_le hN.lt k.size, (hq 0).trans hN.kidc, ⟨A, q, cc, (hq 1).trans h1, h2, h3, h4, k.row hc hne h5, h6⟩, (hq 2).trans hN.lnk, fun j => (World.frozen?_of_block (w := w) hb).trans (hN.frz j), fun m D hm => own_block (hN.own m D hm) (k.block m (hN.own m D hm).lt (fun e => hR (by subst e; exact .inr ⟨n, nd, D, hn, hm⟩)))⟩
theorem KC.kept {R : Nat} {w W' : World} (h : KC R w W') : Kept (fun b => b = R) w W' := ⟨h.os, h.tape, h.output, h.size, h.block⟩
/-- What the loop over the names keeps. -/
def StatI (w : World) (R : Nat) (kd lk n0 : Int) (_ : Nat) (pre : List (List UInt8)) (W : World) : Prop := W.cell? ⟨R, 3, none⟩ = some (.int .i64 (n0 + pre.length)) ∧ KC R w W
theorem statI_own {w : World} {R : Nat} {kd lk n0 : Int} (hR : R < w.heap.size) (H : Nat) : OwnFrom w.heap.size (StatI w R kd lk n0 H) := fun _ X Y row hs hg hr =>
  ⟨(World.cell?_of_block (w := X) (hg.block R (Nat.lt_of_lt_of_le hR hs.2.size) (fun e => by have := (hr R e.symm).1; omega))).trans hs.1, hs.2.grown hR hg (fun r e => (hr r e).1)⟩
def StatV (g : GrP) (root : Nat) (p : List UInt8) (R : Nat) (W : World) : Prop :=
  ∃ nd, g (nodeAt g root p) = some nd ∧ CellsAt W R 6 (cellsO' 0 (if nd.kids.isSome then 2 else 1) nd.links (match nd.kids with | some (_, D) => ((namesL D).length : Nat) | none => (nd.bytes.length : Nat)) none 0 0 none 0 0)
end Go.Proofs.YtibpagmpdgflmaaGreatDoor

namespace Go.Proofs.YtibpagmpdgflmaaGreatDoor
open Go.RowKit Go.Maps Go.Shelf
attribute [local go_sem] Oper.semAt_some

theorem cellsO3 {W : World} {R : Nat} {kd lk n0 n1 : Int} {w : World} (h : CellsAt w R 6 (cellsO' 0 kd lk n0 none 0 0 none 0 0)) (h3 : W.cell? ⟨R, 3, none⟩ = some (.int .i64 n1)) (hc : ∀ i, i ≠ 3 → W.cell? ⟨R, i, none⟩ = w.cell? ⟨R, i, none⟩) (hf : ∀ i, W.frozen? ⟨R, i, none⟩ = w.frozen? ⟨R, i, none⟩) : CellsAt W R 6 (cellsO' 0 kd lk n1 none 0 0 none 0 0) :=
  ⟨fun i hi => match i, hi with
    | 0, _ => (hc 0 (by decide)).trans (h.1 0 (by omega))
    | 1, _ => (hc 1 (by decide)).trans (h.1 1 (by omega))
    | 2, _ => (hc 2 (by decide)).trans (h.1 2 (by omega))
    | 3, _ => h3
    | 4, _ => (hc 4 (by decide)).trans (h.1 4 (by omega))
    | 5, _ => (hc 5 (by decide)).trans (h.1 5 (by omega)), fun i => (hf i).trans (h.2 i)⟩
theorem stat_end {T root N R D H : Nat} {g : GrP} {W W3 W4 : World} {p : List UInt8} {nd : NodeP} {kd lk n0 : Int} {xs : List (List UInt8)} (hRl : R < W.heap.size) (hRG : ¬ inG g R) (hRT : R ≠ T) (k3 : Kept (fun b => b = R) W W3) (t3 : TrAt W3 T root N g)
    (r3 : CellsAt W3 R 6 (cellsO' 0 kd lk n0 none 0 0 none 0 0)) (hI : StatI W3 R kd lk n0 H xs W4) (hD : W3.heap.size ≤ D) (hK : W4.heap[D]? = some (.deferred (some []))) (hnd : g (nodeAt g root p) = some nd) (hkd : kd = if nd.kids.isSome then 2 else 1) (hlk : lk = nd.links)
    (hn : n0 + xs.length = match nd.kids with | some (_, D) => ((namesL D).length : Nat) | none => (nd.bytes.length : Nat)) : AskT T root N g R 0 (StatV g root p R) W (.returned (.tuple #[])) (W4.putObj D (.deferred none)) := by
  have hb := belowK_b (w := W3) (Nat.le_refl _) W4 D _ (.deferred none) hD hK rfl rfl
  obtain ⟨h3, hc⟩ := hI
  have hR3 : R < W3.heap.size := Nat.lt_of_lt_of_le hRl k3.size
  have k5 : KC R W3 (W4.putObj D (.deferred none)) := ⟨hb.os.trans hc.os, hb.tape.trans hc.tape, hb.output.trans hc.output, Nat.le_trans hc.size hb.size, fun b h1 h2 => (hb.block b h1).trans (hc.block b h1 h2), fun i hi => (World.cell?_of_block (w := W4) (hb.block R hR3)).trans (hc.cell i hi), fun i => (World.frozen?_of_block (w := W4) (hb.block R hR3)).trans (hc.frz i)⟩
  have c5 := cellsO3 r3 ((World.cell?_of_block (w := W4) (hb.block R hR3)).trans h3) k5.cell k5.frz
  refine ⟨rfl, k3.trans k5.kept (fun _ _ h => h), t3.kc k5 (r3.1 3 (by omega)) (i64_not _) hRG hRT, fun h => absurd rfl h, fun _ => ⟨nd, hnd, ?_⟩⟩
  rw [← hkd, ← hlk]
  cases hk : nd.kids with
  | none => rw [hk] at hn; simp only at hn ⊢; rw [← hn]; exact c5
  | some q => rw [hk] at hn; simp only at hn ⊢; rw [← hn]; exact c5
theorem leavesM_congr {F : Fence} {n : Nat} {P : Program} {fn : Func} {t1 t2 : Array Value} {R : Ending → World → Prop} (h : results fn t1 = results fn t2) : ∀ (ds : List Deferred) (u : FrameMode) (w : World), LeavesInM F n P fn t1 R ds u w → LeavesInM F n P fn t2 R ds u w
  | [], u, w, hl => by
    cases u with
    | run => exact hl
    | returning => obtain ⟨v, h1, h2⟩ := hl; exact ⟨v, by rw [← h]; exact h1, h2⟩
    | panicking c => exact hl
  | d :: ds, u, w, hl => by
    obtain ⟨h1, h2⟩ := hl
    refine ⟨h1, ?_⟩
    rcases h2 with ⟨r, w', q1, q2, q3⟩ | ⟨q0, fv, cap, f, args, q1, q2, q3, q4⟩
    · exact .inl ⟨r, w', q1, q2, leavesM_congr h ds _ _ q3⟩
    · refine .inr ⟨q0, fv, cap, f, args, q1, q2, q3, q4.mono fun e u' w' he => ?_⟩
      cases e with
      | returned v => exact leavesM_congr h ds _ _ he
      | panicked c => exact leavesM_congr h ds _ _ he
      | outgrown => exact he
theorem stat_out (d : Option Nat) (v : Value) {F : Fence} {n : Nat} {R : Ending → World → Prop} (c : List PanicEntry) (a : Act) (w : World) (h : bodyPostM F n Tryz.prog Tryz.f86 R (.panic c) (a.put d v) w) : bodyPostM F n Tryz.prog Tryz.f86 R (.panic c) a w := by
  have hd : (a.put d v).defers = a.defers := by cases d <;> rfl
  have h2 : LeavesInM F n Tryz.prog Tryz.f86 (a.put d v).tmps R (a.put d v).defers (.panicking c) w := h
  rw [hd] at h2
  exact leavesM_congr (by unfold results; rw [Tryz.results86]; simp) _ _ _ h2

set_option maxRecDepth 100000 in
set_option maxHeartbeats 8000000 in
theorem stat_any (T root N R : Nat) (g : GrP) (k : Int) (p d : ByteArray) (a n : Int) (A : Option Addr) (m c : Nat) (W : World) (hp : p.size < 4294967281) (h : TrAt W T root N g) (hN : N ≤ 1000000) (hR : CellsAt W R 6 resZ) (hRG : ¬ inG g R) (hRT : R ≠ T) :
    Calls Tryz.prog 86 #[.pointer (some ⟨T, 0, none⟩), opV k p d a n A m c, .pointer (some ⟨R, 0, none⟩)] W
      (AskT T root N g R (kindT g root (bytesOf p)).2 (StatV g root (bytesOf p) R) W) := by
  have hmx : Tryz.prog.follows .mixedOrders = true := by kernel_rfl
  obtain ⟨W0, hW0⟩ : ∃ W0, (W.alloc (.cells #[.int .i64 k, .string p, .string d, .int .i64 a, .int .i64 n, .slice A m c] 32)).alloc (.cells #[.pointer (some ⟨R, 0, none⟩)] 82) = W0 := ⟨_, rfl⟩
  have hb0 : Below W.heap.size W W0 := by rw [← hW0]; exact ((Below.refl _ _).alloc (Nat.le_refl _) _).alloc (by simp) _
  have hs0 : W0.heap.size = W.heap.size + 2 := by rw [← hW0]; simp
  have hRl : R < W.heap.size := World.block_lt_of_cell? W ⟨R, 0, none⟩ (hR.1 0 (by omega))
  have x1 : W0.cell? ⟨W.heap.size, 1, none⟩ = some (.string p) := by
    rw [← hW0]
    exact ((Below.refl (W.heap.size + 1) _).alloc (by simp) _).cell (p := ⟨W.heap.size, 1, none⟩) (Nat.lt_succ_self _) |>.trans (cell_new _ _ _ 1 _ rfl)
  have xr : W0.cell? ⟨W.heap.size + 1, 0, none⟩ = some (.pointer (some ⟨R, 0, none⟩)) := by
    rw [← hW0]
    have := cell_new (W.alloc (.cells #[.int .i64 k, .string p, .string d, .int .i64 a, .int .i64 n, .slice A m c] 32)) #[.pointer (some ⟨R, 0, none⟩)] 82 0 _ rfl
    rw [show (W.alloc (.cells #[.int .i64 k, .string p, .string d, .int .i64 a, .int .i64 n, .slice A m c] 32)).heap.size = W.heap.size + 1 from by simp] at this
    exact this
  have hT0 := h.below hb0
  have HTR := Lib.hid hT0
  have HKD := Lib.hid (kind_any g T root p W0 hp hT0.nodes hT0.rt hT0.tc)
  have HF0 := Lib.hid (fun W => fine_yes W)
  have HB0 := Lib.hid hb0
  have HW0 := Lib.hid hW0
  have HR := Lib.hid (hR.below hb0 hRl)
  have HRG := Lib.hid hRG
  have HRT := Lib.hid hRT
  clear h hb0 hT0 hR hW0 hRG
  by_cases hz : (kindT g root (bytesOf p)).2 = 0
  · obtain ⟨nd, hnd, hk1, heL, heB, heN⟩ := there_node HTR.out.nodes HTR.out.rt hz
    have HND := Lib.hid hnd
    have HLK : Hid (∀ w, TrAt w T root N g → Calls Tryz.prog 124 #[.pointer (some ⟨T, 0, none⟩), .string p] w fun e w2 => e = .returned (.tuple #[.int .i64 nd.links, .int .i64 0]) ∧ Below w.heap.size w w2) := fun w hw => by
      refine (linksT_any g T root p w hp hw.nodes hw.rt hw.tc (hw.few.more hN)).mono ?_
      rintro e w2 ⟨v, rfl, h1, _, hb⟩
      obtain ⟨nd2, h2, h3⟩ := h1 heL
      have e2 : nd2 = nd := by rw [hnd] at h2; injection h2 with h2; exact h2.symm
      rw [heL, show v = _ from h3, e2]
      exact ⟨rfl, hb⟩
    have HBY : Hid (nd.kids = none → ∀ w, TrAt w T root N g → Calls Tryz.prog 125 #[.pointer (some ⟨T, 0, none⟩), .string p] w fun e w2 => (∃ A1 c1, e = .returned (.tuple #[.slice A1 nd.bytes.length c1, .int .i64 0])) ∧ Below w.heap.size w w2) := fun hk w hw => by
      have hz2 : errAt offB g root (bytesOf p) = 0 := by rw [heB]; unfold offB; rw [hk]; rfl
      refine (bytesT_any g T root p w hp hw.nodes hw.rt hw.tc (hw.few.more hN)).mono ?_
      rintro e w2 ⟨v, rfl, h1, _, hb⟩
      obtain ⟨nd2, h2, A1, k1, c1, rfl, q1, _⟩ := h1 hz2
      have e2 : nd2 = nd := by rw [hnd] at h2; injection h2 with h2; exact h2.symm
      rw [hz2, ← q1, e2]
      exact ⟨⟨A1, c1, rfl⟩, hb⟩
    have HLI : Hid (listedL g root (bytesOf p) = match nd.kids with | some (_, D) => namesL D | none => []) := by
      rw [Hid]; unfold listedL; rw [heN]; unfold offN
      cases hk : nd.kids with
      | none => rfl
      | some q => rw [hnd]; simp only; rw [hk]; rfl
    have hlow := (HTR.out.few.2 _ nd hnd)
    rw [hz]
    have HKZ := Lib.hid hz
    have HK1 := Lib.hid hk1
    clear hnd hz hk1 heL heB heN
    obtain ⟨kd, hkd⟩ : ∃ kd, (kindT g root (bytesOf p)).1 = kd := ⟨_, rfl⟩
    have HKD2 : Hid (Calls Tryz.prog 54 #[.pointer (some ⟨T, 0, none⟩), .string p] W0 fun e W' => e = .returned (.tuple #[.int .i64 kd, .int .i64 0]) ∧ Below W0.heap.size W0 W') := by
      refine HKD.out.mono ?_
      rintro e w' ⟨rfl, hb⟩
      exact ⟨by rw [HKZ.out, hkd], hb⟩
    have HK2 : Hid (kd = if nd.kids.isSome then 2 else 1) := by rw [Hid, ← hkd]; exact HK1.out
    clear HKD HK1 hkd HKZ
    unfold opV
    refine calls_of_wp_marks Tryz.func86 rfl ?_
    simp only [Tryz.ntmps86, List.size_toArray, List.length_cons, List.length_nil, Nat.reduceAdd, Nat.reduceSub, Array.replicate_succ, Array.replicate_zero, List.push_toArray, List.append_toArray, List.nil_append, List.cons_append]
    go_wp2_with (first
      | (go_at_call 54; rw [HW0.out]; refine HKD2.out.mono ?_; rintro e w2 ⟨rfl, hb2⟩; have HB2 := Lib.hid hb2; have hR2 := HR.out.below hb2 (by omega); have HR2 := Lib.hid hR2; have yr := (hb2.cell (p := ⟨W.heap.size + 1, 0, none⟩) (by show W.heap.size + 1 < W0.heap.size; omega)).trans xr; have y1 := (hb2.cell (p := ⟨W.heap.size, 1, none⟩) (by show W.heap.size < W0.heap.size; omega)).trans x1; have r1 : w2.cell? ⟨R, 1, none⟩ = some (.int .i64 0) := hR2.1 1 (by omega); have f1 := hR2.2 1; clear hb2 hR2)
      | (go_at_call 55; refine (HF0.out _).mono ?_; rintro e w3 ⟨rfl, rfl⟩))
    obtain ⟨w5, hw5⟩ : ∃ w5, w3.setCell ⟨R, 1, none⟩ (.int .i64 kd) = w5 := ⟨_, rfl⟩
    have hs3 := HB2.out.size
    have hs5 : w5.heap.size = w3.heap.size := by rw [← hw5]; simp [World.setCell]
    have hR5 : CellsAt w5 R 6 (cellsO' 0 kd 0 0 none 0 0 none 0 0) := by
      rw [← hw5]
      exact cells_congr (HR2.out.upd (i := 1) (v := .int .i64 kd) (by omega)) fun i hi => match i, hi with | 0, _ => rfl | 1, _ => rfl | 2, _ => rfl | 3, _ => rfl | 4, _ => rfl | 5, _ => rfl
    have hT5 : TrAt w5 T root N g := by rw [← hw5]; exact (HTR.out.below HB2.out).set HRG.out HRT.out r1 (i64_not _)
    have ur : w5.cell? ⟨W.heap.size + 1, 0, none⟩ = some (.pointer (some ⟨R, 0, none⟩)) := by rw [← hw5]; exact (World.cell?_setCell_other _ _ _ _ (by intro e; injection e with e; omega)).trans yr
    have u1 : w5.cell? ⟨W.heap.size, 1, none⟩ = some (.string p) := by rw [← hw5]; exact (World.cell?_setCell_other _ _ _ _ (by intro e; injection e with e; omega)).trans y1
    have hK5 : Kept (fun b => b = R) W w5 := by rw [← hw5]; exact kept_R HB0.out HB2.out 1 _
    rw [hw5]
    have HLK5 := Lib.hid (HLK.out w5.drew ⟨hT5.tc, hT5.nodes.below ((Below.refl _ _).drew), hT5.inj, hT5.rt, hT5.out, hT5.few⟩)
    have hS0 : w5.drew.cell? ⟨W.heap.size + 1, 0, none⟩ = some (.pointer (some ⟨R, 0, none⟩)) ∧ w5.drew.cell? ⟨W.heap.size, 1, none⟩ = some (.string p) := ⟨ur, u1⟩
    clear hw5 r1 f1 yr y1
    rename_i K hK
    have HK := Lib.hid hK
    clear hK
    refine (wpIn_wide (n := 10)).1 ?_
    refine whichever_region (fun w => w.cell? ⟨W.heap.size + 1, 0, none⟩ = some (.pointer (some ⟨R, 0, none⟩)) ∧ w.cell? ⟨W.heap.size, 1, none⟩ = some (.string p)) [] hmx ?_
    refine whichever_take 0 (.pointer (some ⟨R, 0, none⟩)) [] rfl (by kernel_rfl) (fun c a w h => stat_out _ _ c a w h) hS0 (by rfl) (fun w hw => ?_) ?_
    · have hw1 := hw.1
      constructor <;> go_simp
    refine whichever_take 1 (.pointer (some ⟨T, 0, none⟩)) [] rfl (by kernel_rfl) (fun c a w h => stat_out _ _ c a w h) hS0 (by rfl) (fun w hw => ?_) ?_
    · constructor <;> go_simp
    refine whichever_take 2 (.pointer (some ⟨W.heap.size, 1, none⟩)) [] rfl (by kernel_rfl) (fun c a w h => stat_out _ _ c a w h) hS0 (by rfl) (fun w hw => ?_) ?_
    · constructor <;> go_simp
    refine whichever_take 3 (.string p) [] rfl (by kernel_rfl) (fun c a w h => stat_out _ _ c a w h) hS0 (by rfl) (fun w hw => ?_) ?_
    · have hw1 := hw.2
      constructor <;> go_simp
    refine whichever_next 4 rfl (by kernel_rfl) (by rfl) ?_
    go_simp
    refine ⟨trivial, callsIn_wide.2 (HLK5.out.mono ?_)⟩
    rintro e w6 ⟨rfl, hb6⟩
    simp only
    have hb6 : Below w5.heap.size w5 w6 := (Below.refl _ _).drew.trans hb6
    have hR6 := hR5.below hb6 (by show R < w5.heap.size; omega)
    have ur6 := (hb6.cell (p := ⟨W.heap.size + 1, 0, none⟩) (by show W.heap.size + 1 < w5.heap.size; omega)).trans ur
    have u16 := (hb6.cell (p := ⟨W.heap.size, 1, none⟩) (by show W.heap.size < w5.heap.size; omega)).trans u1
    have hS0 : w6.cell? ⟨W.heap.size + 1, 0, none⟩ = some (.pointer (some ⟨R, 0, none⟩)) ∧ w6.cell? ⟨W.heap.size, 1, none⟩ = some (.string p) := ⟨ur6, u16⟩
    refine ⟨hS0, ?_⟩
    refine whichever_next 5 rfl (by kernel_rfl) (by rfl) ?_
    go_simp
    refine whichever_take 6 (.int .i64 nd.links) [] rfl (by kernel_rfl) (fun c a w h => stat_out _ _ c a w h) hS0 (by rfl) (fun w hw => ?_) ?_
    · constructor <;> go_simp
    refine whichever_take 7 (.int .i64 0) [] rfl (by kernel_rfl) (fun c a w h => stat_out _ _ c a w h) hS0 (by rfl) (fun w hw => ?_) ?_
    · constructor <;> go_simp
    refine whichever_take 8 (.pointer (some ⟨R, 0, none⟩)) [] rfl (by kernel_rfl) (fun c a w h => stat_out _ _ c a w h) hS0 (by rfl) (fun w hw => ?_) ?_
    · constructor <;> go_simp
    refine whichever_take 9 (.pointer (some ⟨R, 2, none⟩)) [] rfl (by kernel_rfl) (fun c a w h => stat_out _ _ c a w h) hS0 (by rfl) (fun w hw => ?_) ?_
    · constructor <;> go_simp
    refine whichever_next 10 rfl (by kernel_rfl) (by rfl) ?_
    have r2 : w6.cell? ⟨R, 2, none⟩ = some (.int .i64 0) := hR6.1 2 (by omega)
    have f2 := hR6.2 2
    go_simp
    refine whichever_end (by kernel_rfl) ?_
    refine HK.out _ _ ?_
    obtain ⟨w7, hw7⟩ : ∃ w7, w6.setCell ⟨R, 2, none⟩ (.int .i64 nd.links) = w7 := ⟨_, rfl⟩
    have hs6 := hb6.size
    have hs7 : w7.heap.size = w6.heap.size := by rw [← hw7]; simp [World.setCell]
    have HB6 := Lib.hid hb6
    have HR7 : Hid (CellsAt w7 R 6 (cellsO' 0 kd nd.links 0 none 0 0 none 0 0)) := by
      rw [Hid, ← hw7]
      exact cells_congr (hR6.upd (i := 2) (v := .int .i64 nd.links) (by omega)) fun i hi => match i, hi with | 0, _ => rfl | 1, _ => rfl | 2, _ => rfl | 3, _ => rfl | 4, _ => rfl | 5, _ => rfl
    have HT7 : Hid (TrAt w7 T root N g) := by rw [Hid, ← hw7]; exact (hT5.below hb6).set HRG.out HRT.out r2 (i64_not _)
    have HK7 : Hid (Kept (fun b => b = R) W w7) := by rw [Hid, ← hw7]; exact (hK5.trans (Kept.of_below (S := fun b => b = R) hb6) (fun _ _ h => h)).set (p := ⟨R, 2, none⟩) (.inl rfl) _
    have ur7 : w7.cell? ⟨W.heap.size + 1, 0, none⟩ = some (.pointer (some ⟨R, 0, none⟩)) := by rw [← hw7]; exact (World.cell?_setCell_other _ _ _ _ (by intro e; injection e with e; omega)).trans ur6
    have u17 : w7.cell? ⟨W.heap.size, 1, none⟩ = some (.string p) := by rw [← hw7]; exact (World.cell?_setCell_other _ _ _ _ (by intro e; injection e with e; omega)).trans u16
    rw [hw7]
    clear hw7 r2 f2 hR6 ur6 u16 hS0 hK5 hb6 HLK5 hR5 hT5 ur u1
    cases hk : nd.kids with
    | none =>
      have hkd1 : kd = 1 := by rw [HK2.out, hk]; rfl
      subst hkd1
      have HBY7 := Lib.hid (HBY.out hk w7 HT7.out)
      go_wp2_with (first
        | (go_at_call 125; refine HBY7.out.mono ?_; rintro e w8 ⟨⟨A1, c1, rfl⟩, hb8⟩; have HB8 := Lib.hid hb8; have hR8 := HR7.out.below hb8 (by omega); have HR8 := Lib.hid hR8; have q8 : ∀ v, (w8.setCell ⟨R, 3, none⟩ v).cell? ⟨W.heap.size, 1, none⟩ = some (.string p) := (fun v => (World.cell?_setCell_other _ _ _ _ (by intro e; injection e with e; omega)).trans ((hb8.cell (p := ⟨W.heap.size, 1, none⟩) (by show W.heap.size < w7.heap.size; omega)).trans u17)); have z8 := (hb8.cell (p := ⟨W.heap.size + 1, 0, none⟩) (by show W.heap.size + 1 < w7.heap.size; omega)).trans ur7; have r3 : w8.cell? ⟨R, 3, none⟩ = some (.int .i64 0) := hR8.1 3 (by omega); have f3 := hR8.2 3; clear hb8 hR8)
        | (go_at_call 126; refine (listed_any T p _).mono ?_; rintro e wL ⟨rfl, rfl⟩))
      obtain ⟨w9, hw9⟩ : ∃ w9, w8.setCell ⟨R, 3, none⟩ (.int .i64 (nd.bytes.length : Nat)) = w9 := ⟨_, rfl⟩
      have hs8 := HB8.out.size
      have hs9 : w9.heap.size = w8.heap.size := by rw [← hw9]; simp [World.setCell]
      have HRB : Hid (CellsAt w9 R 6 (cellsO' 0 1 nd.links (nd.bytes.length : Nat) none 0 0 none 0 0)) := by
        rw [Hid, ← hw9]
        exact cells_congr (HR8.out.upd (i := 3) (v := .int .i64 (nd.bytes.length : Nat)) (by omega)) fun i hi => match i, hi with | 0, _ => rfl | 1, _ => rfl | 2, _ => rfl | 3, _ => rfl | 4, _ => rfl | 5, _ => rfl
      have HTB : Hid (TrAt w9 T root N g) := by rw [Hid, ← hw9]; exact (HT7.out.below HB8.out).set HRG.out HRT r3 (i64_not _)
      have HKB : Hid (Kept (fun b => b = R) W w9) := by rw [Hid, ← hw9]; exact (HK7.out.andBelow HB8.out).set (p := ⟨R, 3, none⟩) (.inl rfl) _
      have urB : w9.cell? ⟨W.heap.size + 1, 0, none⟩ = some (.pointer (some ⟨R, 0, none⟩)) := by rw [← hw9]; exact (World.cell?_setCell_other _ _ _ _ (by intro e; injection e with e; omega)).trans z8
      rw [hw9]
      clear hw9 r3 f3 z8
      obtain ⟨W3, hW3⟩ : ∃ W3, (w9.alloc (.cells #[.pointer (some ⟨T, 0, none⟩)] 55)).alloc (.cells #[.string p] 9) = W3 := ⟨_, rfl⟩
      have hb3 : Below w9.heap.size w9 W3 := by rw [← hW3]; exact ((Below.refl _ _).alloc (Nat.le_refl _) _).alloc (by simp) _
      have hX3 : W3.cell? ⟨w9.heap.size, 0, none⟩ = some (.pointer (some ⟨T, 0, none⟩)) := by
        rw [← hW3]
        exact ((Below.refl (w9.heap.size + 1) _).alloc (by simp) _).cell (p := ⟨w9.heap.size, 0, none⟩) (Nat.lt_succ_self _) |>.trans (cell_new _ _ _ 0 _ rfl)
      have hY3 : W3.cell? ⟨w9.heap.size + 1, 0, none⟩ = some (.string p) := by
        rw [← hW3]
        have := cell_new (w9.alloc (.cells #[.pointer (some ⟨T, 0, none⟩)] 55)) #[.string p] 9 0 _ rfl
        rw [show (w9.alloc (.cells #[.pointer (some ⟨T, 0, none⟩)] 55)).heap.size = w9.heap.size + 1 from by simp] at this
        exact this
      have ur3 := (hb3.cell (p := ⟨W.heap.size + 1, 0, none⟩) (by show W.heap.size + 1 < w9.heap.size; omega)).trans urB
      have HRB3 := Lib.hid (HRB.out.below hb3 (by omega))
      have HTB3 := Lib.hid (HTB.out.below hb3)
      have HKB3 := Lib.hid (HKB.out.andBelow hb3)
      have hsz3 := hb3.size
      rw [hW3]
      clear hW3 hb3
      rw [hs9] at hX3 hY3
      refine wp_range_fix (gf := 170) (lb := #[.pointer (some ⟨w8.heap.size, 0, none⟩), .pointer (some ⟨w8.heap.size + 1, 0, none⟩)]) rfl (enters_of Tryz.func170 (by kernel_rfl) rfl)
        (listed_iter T root N w8.heap.size (w8.heap.size + 1) g p hp hN W3 HTB3.out hX3 hY3) (Below.refl _ _) (Nat.zero_le _) (fun _ => rfl)
        (fun H => StatI W3 R 1 nd.links (nd.bytes.length : Nat) H) (fun H _ _ _ => False) (fun H => statI_own (by omega) H) (fun H c => fun _ _ _ _ h _ _ => h.elim)
        (fun H hH => ⟨by rw [HRB3.out.1 3 (by omega)]; show some (Value.int .i64 (nd.bytes.length : Nat)) = _; simp, KC.refl _ _⟩) ?_ ?_ ?_ ?_ ?_
      rotate_left
      · intro l x W K hK
        unfold encT1
        gi_wp2
        exact hK
      · rintro l' H pre x W1 hl hlH hHW _ ⟨hI3, hIk⟩ hlen
        rw [HLI.out, hk] at hlen
        exact absurd hlen (by simp)
      · rintro D H xs W4 hD hH hxs hI hK
        have HFIN := Lib.hid (stat_end (p := bytesOf p) hRl HRG.out HRT HKB3.out HTB3.out HRB3.out hI hD hK HND.out (by rw [hk]; rfl) rfl (by rw [hxs, HLI.out, hk]; simp))
        have H1 := Lib.hid hK
        clear hI hK
        exact end_mark H1.out (by unfold results; rw [Tryz.results86]; simp) HFIN.out
      · rintro D H cc pre W4 hD hH hSp h hK
        exact h.elim
    | some q =>
      obtain ⟨m0, D0⟩ := q
      have hkd1 : kd = 2 := by rw [HK2.out, hk]; rfl
      subst hkd1
      have HRB := HR7
      have HTB := HT7
      have HKB := HK7
      have urB := ur7
      have hlen0 : (namesL D0).length ≤ 1000000 := by
        refine Nat.le_trans ?_ (Nat.le_trans (HTR.out.few.1 _ nd m0 D0 HND.out hk) hN)
        unfold namesL
        rw [List.length_mergeSort]
        cases D0 <;> simp [strKeys, Maps.size]
      go_wp2_with (first
        | (go_at_call 126; refine (listed_any T p _).mono ?_; rintro e wL ⟨rfl, rfl⟩))
      obtain ⟨W3, hW3⟩ : ∃ W3, (w7.alloc (.cells #[.pointer (some ⟨T, 0, none⟩)] 55)).alloc (.cells #[.string p] 9) = W3 := ⟨_, rfl⟩
      have hb3 : Below w7.heap.size w7 W3 := by rw [← hW3]; exact ((Below.refl _ _).alloc (Nat.le_refl _) _).alloc (by simp) _
      have hX3 : W3.cell? ⟨w7.heap.size, 0, none⟩ = some (.pointer (some ⟨T, 0, none⟩)) := by
        rw [← hW3]
        exact ((Below.refl (w7.heap.size + 1) _).alloc (by simp) _).cell (p := ⟨w7.heap.size, 0, none⟩) (Nat.lt_succ_self _) |>.trans (cell_new _ _ _ 0 _ rfl)
      have hY3 : W3.cell? ⟨w7.heap.size + 1, 0, none⟩ = some (.string p) := by
        rw [← hW3]
        have := cell_new (w7.alloc (.cells #[.pointer (some ⟨T, 0, none⟩)] 55)) #[.string p] 9 0 _ rfl
        rw [show (w7.alloc (.cells #[.pointer (some ⟨T, 0, none⟩)] 55)).heap.size = w7.heap.size + 1 from by simp] at this
        exact this
      have ur3 := (hb3.cell (p := ⟨W.heap.size + 1, 0, none⟩) (by show W.heap.size + 1 < w7.heap.size; omega)).trans urB
      have HRB3 := Lib.hid (HRB.out.below hb3 (by omega))
      have HTB3 := Lib.hid (HTB.out.below hb3)
      have HKB3 := Lib.hid (HKB.out.andBelow hb3)
      have hsz3 := hb3.size
      rw [hW3]
      clear hW3 hb3
      rw [hs7] at hX3 hY3
      refine wp_range_fix (gf := 170) (lb := #[.pointer (some ⟨w6.heap.size, 0, none⟩), .pointer (some ⟨w6.heap.size + 1, 0, none⟩)]) rfl (enters_of Tryz.func170 (by kernel_rfl) rfl)
        (listed_iter T root N w6.heap.size (w6.heap.size + 1) g p hp hN W3 HTB3.out hX3 hY3) (Below.refl _ _) (Nat.zero_le _) (fun _ => rfl)
        (fun H => StatI W3 R 2 nd.links 0 H) (fun H _ _ _ => False) (fun H => statI_own (by omega) H) (fun H c => fun _ _ _ _ h _ _ => h.elim)
        (fun H hH => ⟨by rw [HRB3.out.1 3 (by omega)]; show some (Value.int .i64 0) = _; simp, KC.refl _ _⟩) ?_ ?_ ?_ ?_ ?_
      rotate_left
      · intro l x W K hK
        unfold encT1
        gi_wp2
        exact hK
      · rintro l' H pre x W1 hl hlH hHW _ ⟨hI3, hIk⟩ hlen
        rw [HLI.out, hk] at hlen
        have hpl : (pre ++ [x]).length ≤ (namesL D0).length := hlen.length_le
        rw [List.length_append, List.length_singleton] at hpl
        have hI3 : W1.cell? ⟨R, 3, none⟩ = some (.int .i64 (pre.length : Nat)) := by rw [hI3, Int.zero_add]
        have hur := (World.cell?_of_block (w := W3) (a := ⟨W.heap.size + 1, 0, none⟩) (hIk.block (W.heap.size + 1) (by omega) (by omega))).trans ur3
        have hf3 := (hIk.frz 3).trans (HRB3.out.2 3)
        have hwr : IntKind.i64.wrap (((pre.length : Nat) : Int) + 1) = ((pre.length + 1 : Nat) : Int) := by rw [IntWalk.i64_in _ (by omega)]; omega
        have HNEW : Hid (Keeps W3.heap.size 0 H W1 (W1.setCell ⟨R, 3, none⟩ (.int .i64 ((pre.length + 1 : Nat) : Int))) ∧ StatI W3 R 2 nd.links 0 H (pre ++ [x]) (W1.setCell ⟨R, 3, none⟩ (.int .i64 ((pre.length + 1 : Nat) : Int)))) :=
          ⟨Keeps.setCell W1 _ _ (Nat.zero_le _) (.inl (by show R < W3.heap.size; omega)), by rw [World.cell?_setCell_same' _ _ _ (by rw [hI3]; rfl)]; simp, hIk.set _⟩
        clear hlen hIk
        gi_wp2
        exact HNEW.out
      · rintro D H xs W4 hD hH hxs hI hK
        have HFIN := Lib.hid (stat_end (p := bytesOf p) hRl HRG.out HRT HKB3.out HTB3.out HRB3.out hI hD hK HND.out (by rw [hk]; rfl) rfl (by rw [hxs, HLI.out, hk]; simp))
        have H2 := Lib.hid hK
        clear hI hK
        exact end_mark H2.out (by unfold results; rw [Tryz.results86]; simp) HFIN.out
      · rintro D H cc pre W4 hD hH hSp h hK
        exact h.elim

  · have HFZ := Lib.hid (fun W => fine_no hz W)
    have HQ : Hid (∀ w2, Below W0.heap.size W0 w2 → AskT T root N g R (kindT g root (bytesOf p)).2 (StatV g root (bytesOf p) R) W (.panicked [errE (kindT g root (bytesOf p)).2]) w2) := fun w2 hb => ⟨(unitOr_err hz).symm, .of_below (HB0.out.trans (hb.mono HB0.out.size)), HTR.out.below hb, fun _ => HR.out.below hb (show R < W0.heap.size by omega), fun h => absurd h hz⟩
    obtain ⟨z, hzz⟩ : ∃ z, (kindT g root (bytesOf p)).2 = z := ⟨_, rfl⟩
    obtain ⟨kd, hkd⟩ : ∃ kd, (kindT g root (bytesOf p)).1 = kd := ⟨_, rfl⟩
    rw [hzz, hkd] at HKD
    rw [hzz] at HFZ hz HQ ⊢
    clear hzz hkd hz
    unfold opV
    refine calls_of_wp_marks Tryz.func86 rfl ?_
    simp only [Tryz.ntmps86, List.size_toArray, List.length_cons, List.length_nil, Nat.reduceAdd, Nat.reduceSub, Array.replicate_succ, Array.replicate_zero, List.push_toArray, List.append_toArray, List.nil_append, List.cons_append]
    go_wp2_with (first
      | (go_at_call 54; rw [HW0.out]; refine HKD.out.mono ?_; rintro e w2 ⟨rfl, hb2⟩; have HB2 := Lib.hid hb2; clear hb2)
      | (go_at_call 55; refine (HFZ.out _).mono ?_; rintro e w3 ⟨rfl, rfl⟩))
    exact HQ.out _ HB2.out
end Go.Proofs.YtibpagmpdgflmaaGreatDoor
