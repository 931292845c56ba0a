/- What works has laid as it goes on, and each Do that it calls. Conditions: none. -/
import Derived.Test.YtibpagmpdgflmaaGreatDoorZYS
import Derived.Test.YtibpagmpdgflmaaGreatDoorZYM
namespace Go.Proofs.YtibpagmpdgflmaaGreatDoor
open Go.RowKit Go.Maps

/-- A model, the results that were laid, the rows that they hold. -/
structure St (W : World) (M T root N : Nat) (g : GrP) (L : List (Nat × (Nat → Value))) (R : List (Option Addr × List Value)) (w : World) : Prop where
  tr : TrAt w T root N g
  mc : w.cell? ⟨M, 0, none⟩ = some (.pointer (some ⟨T, 0, none⟩))
  mg : ¬ inG g M
  bl : Below W.heap.size W w
  gb : ∀ b, inG g b → W.heap.size ≤ b
  ls : ∀ x ∈ L, CellsAt w x.1 6 x.2 ∧ x.1 < w.heap.size ∧ ¬ inG g x.1
  rs : ∀ x ∈ R, RowAt w x.1 x.2 ∧ ∀ b off, x.1 = some ⟨b, off, none⟩ → b < w.heap.size ∧ ¬ inG g b
namespace St
variable {W w w' : World} {M T root N : Nat} {g g' : GrP} {L : List (Nat × (Nat → Value))} {R : List (Option Addr × List Value)}
theorem ml (h : St W M T root N g L R w) : M < w.heap.size := World.block_lt_of_cell? w ⟨M, 0, none⟩ h.mc
theorem below (h : St W M T root N g L R w) (hb : Below w.heap.size w w') : St W M T root N g L R w' :=
  ⟨h.tr.below hb, (hb.cell (p := ⟨M, 0, none⟩) h.ml).trans h.mc, h.mg, h.bl.trans (hb.mono h.bl.size), h.gb, fun x hx => ⟨(h.ls x hx).1.below hb (h.ls x hx).2.1, Nat.lt_of_lt_of_le (h.ls x hx).2.1 hb.size, (h.ls x hx).2.2⟩,
    fun x hx => ⟨(h.rs x hx).1.below hb, fun b off e => ⟨Nat.lt_of_lt_of_le ((h.rs x hx).2 b off e).1 hb.size, ((h.rs x hx).2 b off e).2⟩⟩⟩
theorem turn {base : Nat} (h : St W M T root N g L R w) (ht : Turn T root (N + 1) base g g' w w') (hb : w.heap.size ≤ base) : St W M T root (N + 1) g' L R w' := by
  have hno : ∀ b, b < w.heap.size → ¬ inG g b → ¬ inG g' b := fun b hl hn e => (ht.sub b e).elim hn fun h2 => by omega
  refine ⟨ht.tree, (ht.kept.cell (p := ⟨M, 0, none⟩) h.ml h.mg).trans h.mc, hno _ h.ml h.mg, h.bl.trans (ht.kept.below h.bl.size fun b hl e => by have := h.gb b e; omega), fun b e => (ht.sub b e).elim (h.gb b) fun h2 => by have := h.bl.size; omega,
    fun x hx => ⟨ht.kept.cells (h.ls x hx).1 (h.ls x hx).2.1 (h.ls x hx).2.2, Nat.lt_of_lt_of_le (h.ls x hx).2.1 ht.kept.size, hno _ (h.ls x hx).2.1 (h.ls x hx).2.2⟩,
    fun x hx => ⟨ht.kept.row (h.rs x hx).1 fun b off e => ((h.rs x hx).2 b off e).2, fun b off e => ⟨Nat.lt_of_lt_of_le ((h.rs x hx).2 b off e).1 ht.kept.size, hno _ ((h.rs x hx).2 b off e).1 ((h.rs x hx).2 b off e).2⟩⟩⟩
theorem row {A : Option Addr} {cs : List Value} (h : St W M T root N g L R w) (hb : Below w.heap.size w w') (hr : RowAt w' A cs) (hA : ∀ b off, A = some ⟨b, off, none⟩ → b < w'.heap.size ∧ w.heap.size ≤ b) : St W M T root N g L ((A, cs) :: R) w' := by
  have h2 := h.below hb
  refine ⟨h2.tr, h2.mc, h2.mg, h2.bl, h2.gb, h2.ls, fun x hx => ?_⟩
  rcases List.mem_cons.1 hx with rfl | hx
  · exact ⟨hr, fun b off e => ⟨(hA b off e).1, fun e2 => absurd (h.tr.nodes.lt e2) (by have := (hA b off e).2; omega)⟩⟩
  · exact h2.rs x hx
/-- Results are laid. -/
theorem lay (h : St W M T root N g L R w) (hb : Below w.heap.size w w') (L2 : List (Nat × (Nat → Value))) (hl : ∀ x ∈ L2, CellsAt w' x.1 6 x.2 ∧ w.heap.size ≤ x.1) : St W M T root N g (L2 ++ L) R w' := by
  have h2 := h.below hb
  refine ⟨h2.tr, h2.mc, h2.mg, h2.bl, h2.gb, fun x hx => ?_, h2.rs⟩
  rcases List.mem_append.1 hx with hx | hx
  · exact ⟨(hl x hx).1, World.block_lt_of_cell? _ ⟨x.1, 0, none⟩ ((hl x hx).1.1 0 (by omega)), fun e2 => absurd (h.tr.nodes.lt e2) (by have := (hl x hx).2; omega)⟩
  · exact h2.ls x hx
end St
abbrev rZ : Value := .agg #[.int .i64 0, .int .i64 0, .int .i64 0, .int .i64 0, .slice none 0 0, .slice none 0 0]
abbrev rE (c : Int) : Value := .agg #[.int .i64 c, .int .i64 0, .int .i64 0, .int .i64 0, .slice none 0 0, .slice none 0 0]
theorem small_bytes {a b : UInt8} : (⟨#[a, b]⟩ : ByteArray).size < 4294967281 := by show 2 < _; omega
section
variable {W w : World} {M T root m N F : Nat} {L : List (Nat × (Nat → Value))} {R : List (Option Addr × List Value)}
theorem wk_make (hN : N ≤ 1000000) (h : St W M T root N (gNew root m) L R w) :
    Calls Tryz.prog 19 #[.pointer (some ⟨M, 0, none⟩), opV 4 sF sE 0 0 none 0 0] w fun e w' => e = .returned (rE 0) ∧ ∃ F, F ≠ root ∧ St W M T root (N + 1) (gW root m F (DF F) [] 1) L R w' := by
  refine (do_make M T root N _ sF sE 0 0 none 0 0 [] w small_bytes (by decide) rfl (by decide) RowAt.nil (by decide) (by decide) h.tr hN h.mc (by kernel_rfl)).mono ?_
  rintro e w' ⟨c, g', rfl, ht, hr⟩
  obtain ⟨rfl, F, hF, rfl⟩ := madeW hr
  exact ⟨rfl, F, hF, h.turn ht (Nat.le_refl _)⟩
theorem wk_write {D : DataW Value} {lk : Nat} {A : Option Addr} (hN : N ≤ 1000000) (hF : F ≠ root) (hD : kidOf D [102] = some F) (hA : RowAt w A ([104, 105].map encB)) (h : St W M T root N (gW root m F D [] lk) L R w) :
    Calls Tryz.prog 19 #[.pointer (some ⟨M, 0, none⟩), opV 10 sF sE 2 0 A 2 2] w fun e w' => e = .returned (rE 0) ∧ St W M T root (N + 1) (gW root m F D [0, 0, 104, 105] lk) L R w' := by
  refine (do_write M T root N _ sF sE 2 0 A 2 2 [104, 105] w small_bytes (by decide) rfl (by decide) hA (by decide) (by decide) h.tr hN h.mc (by kernel_rfl)).mono ?_
  rintro e w' ⟨c, g', rfl, ht, hr⟩
  obtain ⟨rfl, rfl⟩ := changedW hF readF hD (by kernel_rfl) (by decide) hr
  exact ⟨rfl, h.turn ht (Nat.le_refl _)⟩
theorem wk_cut {D : DataW Value} {lk : Nat} (hN : N ≤ 1000000) (hF : F ≠ root) (hD : kidOf D [102] = some F) (h : St W M T root N (gW root m F D [0, 0, 104, 105] lk) L R w) :
    Calls Tryz.prog 19 #[.pointer (some ⟨M, 0, none⟩), opV 11 sF sE 0 1 none 0 0] w fun e w' => e = .returned (rE 0) ∧ St W M T root (N + 1) (gW root m F D [0] lk) L R w' := by
  refine (do_cut M T root N _ sF sE 0 1 none 0 0 [] w small_bytes (by decide) rfl (by decide) RowAt.nil (by decide) (by decide) h.tr hN h.mc (by kernel_rfl)).mono ?_
  rintro e w' ⟨c, g', rfl, ht, hr⟩
  obtain ⟨rfl, rfl⟩ := changedW hF readF hD (by kernel_rfl) (by decide) hr
  exact ⟨rfl, h.turn ht (Nat.le_refl _)⟩
theorem wk_link {bs : List UInt8} (hN : N ≤ 1000000) (hF : F ≠ root) (h : St W M T root N (gW root m F (DF F) bs 1) L R w) :
    Calls Tryz.prog 19 #[.pointer (some ⟨M, 0, none⟩), opV 9 sF sG 0 0 none 0 0] w fun e w' => e = .returned (rE 0) ∧ St W M T root (N + 1) (gW root m F (DFG F) bs 2) L R w' := by
  refine (do_link M T root N _ sF sG 0 0 none 0 0 [] w small_bytes small_bytes rfl (by decide) RowAt.nil (by decide) (by decide) h.tr hN h.mc (by kernel_rfl)).mono ?_
  rintro e w' ⟨c, g', rfl, ht, hr⟩
  obtain ⟨rfl, rfl⟩ := linkW hF (by omega) hr
  exact ⟨rfl, h.turn ht (Nat.le_refl _)⟩
theorem wk_stat {D : DataW Value} {bs : List UInt8} {lk : Nat} {l n : Int} {s : List UInt8} {p : ByteArray} (hl : (lk : Int) = l) (hn : (bs.length : Int) = n) (hN : N ≤ 1000000) (hF : F ≠ root) (hp : readP (bytesOf p) = (0, [s])) (hs : p.size < 4294967281) (hc : checkN 1 (bytesOf p) (bytesOf sE) 0 0 0 = 0) (hD : kidOf D s = some F) (h : St W M T root N (gW root m F D bs lk) L R w) :
    Calls Tryz.prog 19 #[.pointer (some ⟨M, 0, none⟩), opV 1 p sE 0 0 none 0 0] w fun e w' => e = .returned (.agg #[.int .i64 0, .int .i64 1, .int .i64 l, .int .i64 n, .slice none 0 0, .slice none 0 0]) ∧ St W M T root N (gW root m F D bs lk) L R w' := by
  subst hl hn
  refine (do_stat M T root N _ p sE 0 0 none 0 0 [] w hs (by decide) rfl (by decide) RowAt.nil (by decide) (by decide) h.tr hN h.mc hc).mono ?_
  rintro e w' ⟨a1, a2, a3, NA, nn, nc, BA, bn, bc, he, ht, hb, hv⟩
  rw [kindW hF hp hD] at he hv
  obtain ⟨⟨rfl, rfl, rfl, rfl, rfl, rfl⟩, nd, h1, rfl, rfl, rfl⟩ := hv rfl
  rw [nodeW hF hp hD, gW_F] at h1
  injection h1 with h1
  subst h1
  exact ⟨he, h.below hb⟩
theorem wk_statR {bs : List UInt8} (hN : N ≤ 1000000) (hF : F ≠ root) (h : St W M T root N (gW root m F (DF F) bs 1) L R w) :
    Calls Tryz.prog 19 #[.pointer (some ⟨M, 0, none⟩), opV 1 sR sE 0 0 none 0 0] w fun e w' => e = .returned (.agg #[.int .i64 0, .int .i64 2, .int .i64 1, .int .i64 1, .slice none 0 0, .slice none 0 0]) ∧ St W M T root N (gW root m F (DF F) bs 1) L R w' := by
  refine (do_stat M T root N _ sR sE 0 0 none 0 0 [] w (by decide) (by decide) rfl (by decide) RowAt.nil (by decide) (by decide) h.tr hN h.mc (by kernel_rfl)).mono ?_
  rintro e w' ⟨a1, a2, a3, NA, nn, nc, BA, bn, bc, he, ht, hb, hv⟩
  have hk : kindT (gW root m F (DF F) bs 1) root (bytesOf sR) = (2, 0) := by
    unfold kindT
    rw [show readP (bytesOf sR) = (0, []) from readRt]
    simp only [walkG, gW_root hF]
    rfl
  rw [hk] at he hv
  obtain ⟨⟨rfl, rfl, rfl, rfl, rfl, rfl⟩, nd, h1, rfl, rfl, rfl⟩ := hv rfl
  have hn : nodeAt (gW root m F (DF F) bs 1) root (bytesOf sR) = root := by unfold nodeAt; rw [show readP (bytesOf sR) = (0, []) from readRt]; rfl
  rw [hn, gW_root hF] at h1
  injection h1 with h1
  subst h1
  have hc : cntN ⟨some (m, DF F), [], 1⟩ = 1 := by unfold cntN; simp only [namesDF]; rfl
  rw [hc] at he
  exact ⟨he, h.below hb⟩
theorem wk_list {bs : List UInt8} (hN : N ≤ 1000000) (hF : F ≠ root) (h : St W M T root N (gW root m F (DF F) bs 1) L R w) :
    Calls Tryz.prog 19 #[.pointer (some ⟨M, 0, none⟩), opV 2 sR sE 0 0 none 0 0] w fun e w' => ∃ NA nc, e = .returned (.agg #[.int .i64 0, .int .i64 0, .int .i64 0, .int .i64 0, .slice NA 1 nc, .slice none 0 0]) ∧ 1 ≤ nc ∧ nc ≤ maxLen ∧ St W M T root N (gW root m F (DF F) bs 1) L ((NA, [.string ⟨#[102]⟩]) :: R) w' := by
  refine (do_list M T root N _ sR sE 0 0 none 0 0 [] w (by decide) (by decide) rfl (by decide) RowAt.nil (by decide) (by decide) h.tr hN h.mc (by kernel_rfl)).mono ?_
  rintro e w' ⟨a1, a2, a3, NA, nn, nc, BA, bn, bc, he, ht, hb, hv⟩
  have hk : errAt offN (gW root m F (DF F) bs 1) root (bytesOf sR) = 0 := by
    unfold errAt
    rw [show readP (bytesOf sR) = (0, []) from readRt]
    simp only [walkG, gW_root hF]
    rfl
  rw [hk] at he hv
  obtain ⟨⟨rfl, rfl, rfl, rfl, rfl, rfl⟩, nd, m', D, h1, h2, h3, h4, h5, h6, h7⟩ := hv rfl
  have hn : nodeAt (gW root m F (DF F) bs 1) root (bytesOf sR) = root := by unfold nodeAt; rw [show readP (bytesOf sR) = (0, []) from readRt]; rfl
  rw [hn, gW_root hF] at h1
  injection h1 with h1
  subst h1
  injection h2 with h2
  injection h2 with _ h2
  subst h2
  rw [namesDF] at h3 h6
  have h3 : nn = 1 := h3.symm
  subst h3
  refine ⟨NA, nc, he, h4, h5, h.row hb h6 fun b off e => ?_⟩
  obtain ⟨b', off', e', hb', _⟩ := h6 (by simp)
  rw [e] at e'
  cases e'
  refine ⟨hb', ?_⟩
  rcases h7 with h7 | ⟨q, h7, h8⟩
  · rw [e] at h7; cases h7
  · rw [e] at h8; cases h8; exact h7
theorem wk_read {D : DataW Value} {lk : Nat} (hN : N ≤ 1000000) (hF : F ≠ root) (hD : kidOf D [102] = some F) (h : St W M T root N (gW root m F D [0, 0, 104, 105] lk) L R w) :
    Calls Tryz.prog 19 #[.pointer (some ⟨M, 0, none⟩), opV 3 sF sE 0 9 none 0 0] w fun e w' => ∃ BA bc, e = .returned (.agg #[.int .i64 0, .int .i64 0, .int .i64 0, .int .i64 0, .slice none 0 0, .slice BA 4 bc]) ∧ 4 ≤ bc ∧ bc ≤ maxLen ∧ St W M T root N (gW root m F D [0, 0, 104, 105] lk) L ((BA, [0, 0, 104, 105].map encB) :: R) w' := by
  refine (do_read M T root N _ sF sE 0 9 none 0 0 [] w small_bytes (by decide) rfl (by decide) RowAt.nil (by decide) (by decide) h.tr hN h.mc 0 9 rfl rfl (by kernel_rfl)).mono ?_
  rintro e w' ⟨a1, a2, a3, NA, nn, nc, BA, bn, bc, he, ht, hb, hv⟩
  have hk : errAt offB (gW root m F D [0, 0, 104, 105] lk) root (bytesOf sF) = 0 := errW hF readF hD
  rw [hk] at he hv
  obtain ⟨⟨rfl, rfl, rfl, rfl, rfl, rfl⟩, nd, h1, h2, h3, h4, h5, h6, h7⟩ := hv rfl
  rw [show nodeAt (gW root m F D [0, 0, 104, 105] lk) root (bytesOf sF) = F from nodeW hF readF hD, gW_F] at h1
  injection h1 with h1
  subst h1
  have h3 : bn = 4 := h3.symm
  subst h3
  refine ⟨BA, bc, he, h4, h5, h.row hb h6 fun b off e => ?_⟩
  obtain ⟨b', off', e', hb', _⟩ := h6 (by simp)
  rw [e] at e'
  cases e'
  exact ⟨hb', h7 _ e⟩
theorem wk_readX {bs : List UInt8} {lk : Nat} (hN : N ≤ 1000000) (hF : F ≠ root) (h : St W M T root N (gW root m F (DF F) bs lk) L R w) :
    Calls Tryz.prog 19 #[.pointer (some ⟨M, 0, none⟩), opV 3 sX sE 0 1 none 0 0] w fun e w' => e = .returned (rE 202) ∧ St W M T root N (gW root m F (DF F) bs lk) L R w' := by
  refine (do_read M T root N _ sX sE 0 1 none 0 0 [] w small_bytes (by decide) rfl (by decide) RowAt.nil (by decide) (by decide) h.tr hN h.mc 0 1 rfl rfl (by kernel_rfl)).mono ?_
  rintro e w' ⟨a1, a2, a3, NA, nn, nc, BA, bn, bc, he, ht, hb, hv⟩
  have hk : errAt offB (gW root m F (DF F) bs lk) root (bytesOf sX) = 202 := by
    unfold errAt
    rw [show readP (bytesOf sX) = (0, [[120]]) from readX, walkWX hF (kidDFX F)]
    rfl
  rw [hk] at he
  exact ⟨he, h.below hb⟩
theorem wk_bad {g : GrP} {k a n z : Int} {p : ByteArray} (h64 : -9223372036854775808 ≤ k ∧ k < 9223372036854775808) (hs : p.size < 4294967281) (ha : a < 9223372036854775808) (hn : n < 9223372036854775808) (hz : checkN k (bytesOf p) (bytesOf sE) a n 0 = z) (h0 : z ≠ 0) (h : St W M T root N g L R w) :
    Calls Tryz.prog 19 #[.pointer (some ⟨M, 0, none⟩), opV k p sE a n none 0 0] w fun e w' => e = .returned (rE z) ∧ St W M T root N g L R w' := by
  subst hz
  refine (do_bad M T root N g k p sE a n none 0 0 [] w h64 hs (by decide) rfl (by decide) RowAt.nil ha hn h.tr h.mc h0).mono ?_
  rintro e w' ⟨rfl, hb⟩
  exact ⟨rfl, h.below hb⟩
end
end Go.Proofs.YtibpagmpdgflmaaGreatDoor
