/- The contracts of the model's Do: what turns the tree, what asks. The contracts of the model's Do, by its kinds. Printed by yr.py. The tree that works turns, and what the model's Do tells of it. Conditions: none. -/
import Derived.Test.YtibpagmpdgflmaaGreatDoorZYM
import Derived.Test.YtibpagmpdgflmaaGreatDoorZYP
namespace Go.Proofs.YtibpagmpdgflmaaGreatDoor
open Go.RowKit Go.Maps

/-- What a Do tells that turns the tree. -/
def DidT (T root N : Nat) (g : GrP) (Rel : Int → GrP → Prop) (W : World) (e : Ending) (W' : World) : Prop := ∃ c g', e = .returned (resE c) ∧ Turn T root (N + 1) W.heap.size g g' W W' ∧ Rel c g'
abbrev VT := Int → Int → Int → Option Addr → Nat → Nat → Option Addr → Nat → Nat → World → Prop
/-- .. that asks. -/
def GaveT (T root N : Nat) (g : GrP) (z : Int) (Val : VT) (W : World) (e : Ending) (W' : World) : Prop := ∃ a1 a2 a3 NA nn nc BA bn bc, e = .returned (if z = 0 then resV 0 a1 a2 a3 NA nn nc BA bn bc else resE z) ∧ TrAt W' T root N g ∧ Below W.heap.size W W' ∧ (z = 0 → Val a1 a2 a3 NA nn nc BA bn bc W')
def QD (T root N : Nat) (g : GrP) (Rel : Int → GrP → Prop) (W : World) : QT := fun c a1 a2 a3 NA nn nc BA bn bc w => (a1 = 0 ∧ a2 = 0 ∧ a3 = 0 ∧ NA = none ∧ nn = 0 ∧ nc = 0 ∧ BA = none ∧ bn = 0 ∧ bc = 0) ∧ ∃ g', Turn T root (N + 1) (W.heap.size + 2) g g' W w ∧ Rel c g'
def QA (T root N : Nat) (g : GrP) (z : Int) (Val : VT) (W : World) : QT := fun c a1 a2 a3 NA nn nc BA bn bc w => c = z ∧ TrAt w T root N g ∧ Below W.heap.size W w ∧ (z = 0 → Val a1 a2 a3 NA nn nc BA bn bc w)
structure SteadyV (R : Nat) (Val : VT) : Prop where
  set : ∀ a1 a2 a3 NA nn nc BA bn bc w i old v, Val a1 a2 a3 NA nn nc BA bn bc w → w.cell? ⟨R, i, none⟩ = some old → (∀ x, old ≠ encB x) → (∀ x, old ≠ .string x) → Val a1 a2 a3 NA nn nc BA bn bc (w.setCell ⟨R, i, none⟩ v)
  below : ∀ a1 a2 a3 NA nn nc BA bn bc w w', Val a1 a2 a3 NA nn nc BA bn bc w → Below w.heap.size w w' → Val a1 a2 a3 NA nn nc BA bn bc w'
section
variable (M T root N : Nat) (g : GrP) (k : Int) (p d : ByteArray) (a n : Int) (A : Option Addr) (m c : Nat) (bs : List UInt8) (W : World) (hk64 : -9223372036854775808 ≤ k ∧ k < 9223372036854775808) (hp : p.size < 4294967281) (hd : d.size < 4294967281) (hl : bs.length = m) (hm : m ≤ maxLen) (hrow : RowAt W A (bs.map encB)) (ha : a < 9223372036854775808) (hn : n < 9223372036854775808)
  (h : TrAt W T root N g) (hM : W.cell? ⟨M, 0, none⟩ = some (.pointer (some ⟨T, 0, none⟩))) (hz : checkN k (bytesOf p) (bytesOf d) a n m = 0)
include hk64 hp hd hl hm hrow ha hn h hM hz
theorem do_turn (Rel : Int → GrP → Prop)
    (HDO : ∀ dd w, DoAt (W.heap.size + 2) k dd w → Below W.heap.size W w → TrAt w T root N g → ∃ clo caps, dd = .func (.func clo) #[] caps ∧ (∀ args w, (callFunc clo args).run Tryz.prog w = .ok (.enter clo args) w) ∧
      Calls Tryz.prog clo (#[.pointer (some ⟨T, 0, none⟩), opV k p d a n A m c, .pointer (some ⟨W.heap.size + 1, 0, none⟩)] ++ caps) w (ChangeT T root N g Rel w)) :
    Calls Tryz.prog 19 #[.pointer (some ⟨M, 0, none⟩), opV k p d a n A m c] W (DidT T root N g Rel W) := by
  refine (do_gen M T root N g k p d a n A m c bs W hk64 hp hd hl hm hrow ha hn h hM hz (QD T root N g Rel W) ⟨?_, ?_⟩ ?_).mono ?_
  · rintro c a1 a2 a3 NA nn nc BA bn bc w i old v ⟨h1, g', h2, h3⟩ hc hB _
    exact ⟨h1, g', h2.set (by omega) (by omega) h.nodes h.lt hc hB, h3⟩
  · rintro c a1 a2 a3 NA nn nc BA bn bc w w' ⟨h1, g', h2, h3⟩ hb
    exact ⟨h1, g', h2.back hb, h3⟩
  · intro dd w hdo hb hs hR
    obtain ⟨clo, caps, h1, h2, h3⟩ := HDO dd w hdo hb (h.below hb)
    refine ⟨clo, caps, h1, h2, h3.mono ?_⟩
    rintro e w' ⟨c, g', he, ht, hrel⟩
    refine ⟨c, 0, 0, 0, none, 0, 0, none, 0, 0, he, ht.kept.cells hR (by omega) (fun e => absurd (h.nodes.lt e) (by omega)), ⟨rfl, rfl, rfl, rfl, rfl, rfl, rfl, rfl, rfl⟩, g', (ht.front hb).base_ hs, hrel⟩
  · rintro e w' ⟨c, a1, a2, a3, NA, nn, nc, BA, bn, bc, he, ⟨rfl, rfl, rfl, rfl, rfl, rfl, rfl, rfl, rfl⟩, g', ht, hrel⟩
    refine ⟨c, g', ?_, ht.base_ (by omega), hrel⟩
    rw [he]
    split
    · rename_i h0; rw [h0]; rfl
    · rfl
theorem do_ask (z : Int) (Val : VT) (hV1 : SteadyV (W.heap.size + 1) Val) (V0 : Nat → World → Prop)
    (hV : ∀ b w, W.heap.size ≤ b → V0 b w → ∃ a1 a2 a3 NA nn nc BA bn bc, CellsAt w (W.heap.size + 1) 6 (cellsO' 0 a1 a2 a3 NA nn nc BA bn bc) ∧ Val a1 a2 a3 NA nn nc BA bn bc w)
    (HDO : ∀ dd w, DoAt (W.heap.size + 2) k dd w → Below W.heap.size W w → TrAt w T root N g → CellsAt w (W.heap.size + 1) 6 resZ → ¬ inG g (W.heap.size + 1) → W.heap.size + 1 ≠ T → ∃ clo caps, dd = .func (.func clo) #[] caps ∧ (∀ args w, (callFunc clo args).run Tryz.prog w = .ok (.enter clo args) w) ∧
      Calls Tryz.prog clo (#[.pointer (some ⟨T, 0, none⟩), opV k p d a n A m c, .pointer (some ⟨W.heap.size + 1, 0, none⟩)] ++ caps) w (AskT T root N g (W.heap.size + 1) z (V0 w.heap.size) w)) :
    Calls Tryz.prog 19 #[.pointer (some ⟨M, 0, none⟩), opV k p d a n A m c] W (GaveT T root N g z Val W) := by
  have hRG : ¬ inG g (W.heap.size + 1) := fun e => absurd (h.nodes.lt e) (by omega)
  have hRT : W.heap.size + 1 ≠ T := by have := h.lt; omega
  refine (do_gen M T root N g k p d a n A m c bs W hk64 hp hd hl hm hrow ha hn h hM hz (QA T root N g z Val W) ⟨?_, ?_⟩ ?_).mono ?_
  · rintro c a1 a2 a3 NA nn nc BA bn bc w i old v ⟨h1, h2, h3, h4⟩ hc hB hS
    exact ⟨h1, h2.set hRG hRT hc hB, h3.setCell (p := ⟨W.heap.size + 1, i, none⟩) (Nat.le_succ _) _, fun h0 => hV1.set _ _ _ _ _ _ _ _ _ _ _ _ _ (h4 h0) hc hB hS⟩
  · rintro c a1 a2 a3 NA nn nc BA bn bc w w' ⟨h1, h2, h3, h4⟩ hb
    exact ⟨h1, h2.below hb, h3.trans (hb.mono h3.size), fun h0 => hV1.below _ _ _ _ _ _ _ _ _ _ _ (h4 h0) hb⟩
  · intro dd w hdo hb hs hR
    obtain ⟨clo, caps, h1, h2, h3⟩ := HDO dd w hdo hb (h.below hb) hR hRG hRT
    refine ⟨clo, caps, h1, h2, h3.mono ?_⟩
    rintro e w' ⟨he, hk, ht, hbad, hval⟩
    have hb' : Below W.heap.size W w' := hb.trans (hk.below hb.size (fun b hb e => by omega))
    by_cases h0 : z = 0
    · obtain ⟨a1, a2, a3, NA, nn, nc, BA, bn, bc, q1, q2⟩ := hV w.heap.size w' hb.size (hval h0)
      exact ⟨z, a1, a2, a3, NA, nn, nc, BA, bn, bc, he, q1, rfl, ht, hb', fun _ => q2⟩
    · exact ⟨z, 0, 0, 0, none, 0, 0, none, 0, 0, he, hbad h0, rfl, ht, hb', fun e => absurd e h0⟩
  · rintro e w' ⟨c, a1, a2, a3, NA, nn, nc, BA, bn, bc, he, rfl, ht, hb, hval⟩
    exact ⟨a1, a2, a3, NA, nn, nc, BA, bn, bc, he, ht, hb, hval⟩
end
end Go.Proofs.YtibpagmpdgflmaaGreatDoor

namespace Go.Proofs.YtibpagmpdgflmaaGreatDoor
open Go.RowKit Go.Maps

theorem cat4 (a b c x : Value) : #[a, b, c] ++ #[x] = #[a, b, c, x] := by simp
theorem cat5 (a b c x y : Value) : #[a, b, c] ++ #[x, y] = #[a, b, c, x, y] := by simp
theorem cat3 (a b c : Value) : #[a, b, c] ++ #[] = #[a, b, c] := by simp
theorem doat_val {b0 : Nat} {k : Int} {dd u1 u2 e : Value} {W : World} (h : DoAt b0 k dd W) (hk : 1 ≤ k ∧ k ≤ 11) (hv : ∀ n v, ActsAt n v W → v k.toNat = .agg #[u1, u2, e]) : dd = e := by
  obtain ⟨n, v, two, nv, _, ha, hx⟩ := h
  unfold actX at hx
  rw [if_pos hk, hv n v ha] at hx
  injection hx with hx
  injection hx with hx
  injection hx with _ hx
  injection hx with _ hx
  injection hx with hx _
  exact hx.symm
theorem doat1 {b0 : Nat} {dd : Value} {W : World} (h : DoAt b0 1 dd W) : dd = .func (.func 86) #[] #[] := doat_val h (by decide) fun _ _ ha => ha.1
theorem doat3 {b0 : Nat} {dd : Value} {W : World} (h : DoAt b0 3 dd W) : dd = .func (.func 134) #[] #[] := doat_val h (by decide) fun _ _ ha => ha.2.2.1
theorem doat2 {b0 : Nat} {dd : Value} {W : World} (h : DoAt b0 2 dd W) : ∃ X Y, dd = .func (.func 127) #[] #[.pointer (some ⟨X, 0, none⟩), .pointer (some ⟨Y, 0, none⟩)] ∧ W.cell? ⟨X, 0, none⟩ = some (.func (.func 88) #[] #[]) ∧ W.cell? ⟨Y, 0, none⟩ = some (.func (.func 89) #[] #[]) := by
  obtain ⟨n, v, two, nv, _, ⟨_, ⟨X, Y, _, _, e, hX, hY, _⟩, _⟩, hx⟩ := h
  have hx : v 2 = .agg #[.bool two, nv, dd] := by unfold actX at hx; rw [if_pos (by decide)] at hx; exact hx
  rw [e] at hx
  injection hx with hx
  injection hx with hx
  injection hx with _ hx
  injection hx with _ hx
  injection hx with hx _
  exact ⟨X, Y, hx.symm, hX, hY⟩
theorem doat4 {b0 : Nat} {dd : Value} {W : World} (h : DoAt b0 4 dd W) : ∃ X, dd = .func (.func 135) #[] #[.pointer (some ⟨X, 0, none⟩)] ∧ W.cell? ⟨X, 0, none⟩ = some (.func (.func 92) #[] #[]) := by
  obtain ⟨n, v, two, nv, _, ⟨_, _, _, ⟨X, _, e, hX, _⟩, _, _, _, _, _, _, _⟩, hx⟩ := h
  have hx : v 4 = .agg #[.bool two, nv, dd] := by unfold actX at hx; rw [if_pos (by decide)] at hx; exact hx
  rw [e] at hx
  injection hx with hx
  injection hx with hx
  injection hx with _ hx
  injection hx with _ hx
  injection hx with hx _
  exact ⟨X, hx.symm, hX⟩
theorem doat5 {b0 : Nat} {dd : Value} {W : World} (h : DoAt b0 5 dd W) : ∃ X, dd = .func (.func 135) #[] #[.pointer (some ⟨X, 0, none⟩)] ∧ W.cell? ⟨X, 0, none⟩ = some (.func (.func 94) #[] #[]) := by
  obtain ⟨n, v, two, nv, _, ⟨_, _, _, _, ⟨X, _, e, hX, _⟩, _, _, _, _, _, _⟩, hx⟩ := h
  have hx : v 5 = .agg #[.bool two, nv, dd] := by unfold actX at hx; rw [if_pos (by decide)] at hx; exact hx
  rw [e] at hx
  injection hx with hx
  injection hx with hx
  injection hx with _ hx
  injection hx with _ hx
  injection hx with hx _
  exact ⟨X, hx.symm, hX⟩
theorem doat9 {b0 : Nat} {dd : Value} {W : World} (h : DoAt b0 9 dd W) : ∃ X, dd = .func (.func 135) #[] #[.pointer (some ⟨X, 0, none⟩)] ∧ W.cell? ⟨X, 0, none⟩ = some (.func (.func 101) #[] #[]) := by
  obtain ⟨n, v, two, nv, _, ⟨_, _, _, _, _, _, _, _, ⟨X, _, e, hX, _⟩, _, _⟩, hx⟩ := h
  have hx : v 9 = .agg #[.bool two, nv, dd] := by unfold actX at hx; rw [if_pos (by decide)] at hx; exact hx
  rw [e] at hx
  injection hx with hx
  injection hx with hx
  injection hx with _ hx
  injection hx with _ hx
  injection hx with hx _
  exact ⟨X, hx.symm, hX⟩
theorem doat10 {b0 : Nat} {dd : Value} {W : World} (h : DoAt b0 10 dd W) : ∃ X, dd = .func (.func 152) #[] #[.pointer (some ⟨X, 0, none⟩)] ∧ W.cell? ⟨X, 0, none⟩ = some (.func (.func 106) #[] #[]) := by
  obtain ⟨n, v, two, nv, _, ⟨_, _, _, _, _, _, _, _, _, ⟨X, _, e, hX, _⟩, _⟩, hx⟩ := h
  have hx : v 10 = .agg #[.bool two, nv, dd] := by unfold actX at hx; rw [if_pos (by decide)] at hx; exact hx
  rw [e] at hx
  injection hx with hx
  injection hx with hx
  injection hx with _ hx
  injection hx with _ hx
  injection hx with hx _
  exact ⟨X, hx.symm, hX⟩
theorem doat11 {b0 : Nat} {dd : Value} {W : World} (h : DoAt b0 11 dd W) : ∃ X, dd = .func (.func 152) #[] #[.pointer (some ⟨X, 0, none⟩)] ∧ W.cell? ⟨X, 0, none⟩ = some (.func (.func 110) #[] #[]) := by
  obtain ⟨n, v, two, nv, _, ⟨_, _, _, _, _, _, _, _, _, _, ⟨X, _, e, hX, _⟩⟩, hx⟩ := h
  have hx : v 11 = .agg #[.bool two, nv, dd] := by unfold actX at hx; rw [if_pos (by decide)] at hx; exact hx
  rw [e] at hx
  injection hx with hx
  injection hx with hx
  injection hx with _ hx
  injection hx with _ hx
  injection hx with hx _
  exact ⟨X, hx.symm, hX⟩
theorem row_setG {W : World} {X i : Nat} {u c : Value} {A : Option Addr} {cs : List Value} (hc : W.cell? ⟨X, i, none⟩ = some c) (hne : ∀ v ∈ cs, c ≠ v) (hr : RowAt W A cs) : RowAt (W.setCell ⟨X, i, none⟩ u) A cs := fun hn => by
  obtain ⟨b, off, e, hb, hcs⟩ := hr hn
  refine ⟨b, off, e, by simpa [World.setCell] using hb, fun k v hv => ?_⟩
  rw [World.cell?_setCell_other _ _ _ _ (by
    intro e2
    rw [e2] at hc
    exact hne v (List.mem_of_getElem? hv) (by have := hcs k v hv; rw [hc] at this; injection this))]
  exact hcs k v hv
def cntN (nd : NodeP) : Nat := match nd.kids with | some (_, D) => (namesL D).length | none => nd.bytes.length
def VStat (g : GrP) (root : Nat) (p : List UInt8) : VT := fun a1 a2 a3 NA nn nc BA bn bc _ => (NA = none ∧ nn = 0 ∧ nc = 0 ∧ BA = none ∧ bn = 0 ∧ bc = 0) ∧ ∃ nd, g (nodeAt g root p) = some nd ∧ a1 = (if nd.kids.isSome then 2 else 1) ∧ a2 = nd.links ∧ a3 = cntN nd
def VList (g : GrP) (root : Nat) (p : List UInt8) (base : Nat) : VT := fun a1 a2 a3 NA nn nc BA bn bc w => (a1 = 0 ∧ a2 = 0 ∧ a3 = 0 ∧ BA = none ∧ bn = 0 ∧ bc = 0) ∧ ∃ nd m D, g (nodeAt g root p) = some nd ∧ nd.kids = some (m, D) ∧ (namesL D).length = nn ∧ nn ≤ nc ∧ nc ≤ maxLen ∧ RowAt w NA ((namesL D).map fun x => .string (ofBytes x)) ∧ FreshA base NA
def VRead (g : GrP) (root : Nat) (p : List UInt8) (a n base : Nat) : VT := fun a1 a2 a3 NA nn nc BA bn bc w => (a1 = 0 ∧ a2 = 0 ∧ a3 = 0 ∧ NA = none ∧ nn = 0 ∧ nc = 0) ∧ ∃ nd, g (nodeAt g root p) = some nd ∧ nd.kids = none ∧ ((nd.bytes.drop a).take n).length = bn ∧ bn ≤ bc ∧ bc ≤ maxLen ∧ RowAt w BA (((nd.bytes.drop a).take n).map encB) ∧ ∀ ad, BA = some ad → base ≤ ad.block
theorem steadyStat (R : Nat) (g : GrP) (root : Nat) (p : List UInt8) : SteadyV R (VStat g root p) := ⟨fun _ _ _ _ _ _ _ _ _ _ _ _ _ h _ _ _ => h, fun _ _ _ _ _ _ _ _ _ _ _ h _ => h⟩
theorem steadyList (R : Nat) (g : GrP) (root : Nat) (p : List UInt8) (base : Nat) : SteadyV R (VList g root p base) := by
  refine ⟨?_, ?_⟩
  · rintro a1 a2 a3 NA nn nc BA bn bc w i old v ⟨h0, nd, m, D, h1, h2, h3, h4, h5, h6, h7⟩ hc _ hS
    exact ⟨h0, nd, m, D, h1, h2, h3, h4, h5, row_setG hc (fun u hu => by obtain ⟨x, _, rfl⟩ := List.mem_map.1 hu; exact hS _) h6, h7⟩
  · rintro a1 a2 a3 NA nn nc BA bn bc w w' ⟨h0, nd, m, D, h1, h2, h3, h4, h5, h6, h7⟩ hb
    exact ⟨h0, nd, m, D, h1, h2, h3, h4, h5, h6.below hb, h7⟩
theorem steadyRead (R : Nat) (g : GrP) (root : Nat) (p : List UInt8) (a n base : Nat) : SteadyV R (VRead g root p a n base) := by
  refine ⟨?_, ?_⟩
  · rintro a1 a2 a3 NA nn nc BA bn bc w i old v ⟨h0, nd, h1, h2, h3, h4, h5, h6, h7⟩ hc hB _
    exact ⟨h0, nd, h1, h2, h3, h4, h5, row_set hc hB h6, h7⟩
  · rintro a1 a2 a3 NA nn nc BA bn bc w w' ⟨h0, nd, h1, h2, h3, h4, h5, h6, h7⟩ hb
    exact ⟨h0, nd, h1, h2, h3, h4, h5, h6.below hb, h7⟩
section
variable (M T root N : Nat) (g : GrP) (p d : ByteArray) (a n : Int) (A : Option Addr) (m c : Nat) (bs : List UInt8) (W : World) (hp : p.size < 4294967281) (hd : d.size < 4294967281) (hl : bs.length = m) (hm : m ≤ maxLen) (hrow : RowAt W A (bs.map encB)) (ha : a < 9223372036854775808) (hn : n < 9223372036854775808)
  (h : TrAt W T root N g) (hN : N ≤ 1000000) (hM : W.cell? ⟨M, 0, none⟩ = some (.pointer (some ⟨T, 0, none⟩)))
include hp hd hl hm hrow ha hn h hN hM
theorem do_make (hz : checkN 4 (bytesOf p) (bytesOf d) a n m = 0) : Calls Tryz.prog 19 #[.pointer (some ⟨M, 0, none⟩), opV 4 p d a n A m c] W (DidT T root N g (PathT (bytesOf p) g (MadeG g root 1 (bytesOf p))) W) :=
  do_turn M T root N g 4 p d a n A m c bs W (by decide) hp hd hl hm hrow ha hn h hM hz _ fun dd w hdo hb ht => by
    obtain ⟨X, e, hX⟩ := doat4 hdo
    refine ⟨_, _, e, enters_of Tryz.func135 (by kernel_rfl) rfl, ?_⟩
    rw [cat4]
    exact simple1_any 92 T root N X (W.heap.size + 1) g _ 4 p d a n A m c w ht (enters_of Tryz.func92 (by kernel_rfl) rfl) hX fun w2 _ ht2 => acts2_any T root N g 4 p d a n A m c w2 hp ht2 hN
theorem do_mkdir (hz : checkN 5 (bytesOf p) (bytesOf d) a n m = 0) : Calls Tryz.prog 19 #[.pointer (some ⟨M, 0, none⟩), opV 5 p d a n A m c] W (DidT T root N g (PathT (bytesOf p) g (MadeG g root 2 (bytesOf p))) W) :=
  do_turn M T root N g 5 p d a n A m c bs W (by decide) hp hd hl hm hrow ha hn h hM hz _ fun dd w hdo hb ht => by
    obtain ⟨X, e, hX⟩ := doat5 hdo
    refine ⟨_, _, e, enters_of Tryz.func135 (by kernel_rfl) rfl, ?_⟩
    rw [cat4]
    exact simple1_any 94 T root N X (W.heap.size + 1) g _ 5 p d a n A m c w ht (enters_of Tryz.func94 (by kernel_rfl) rfl) hX fun w2 _ ht2 => acts3_any T root N g 5 p d a n A m c w2 hp ht2 hN
theorem do_link (hz : checkN 9 (bytesOf p) (bytesOf d) a n m = 0) : Calls Tryz.prog 19 #[.pointer (some ⟨M, 0, none⟩), opV 9 p d a n A m c] W (DidT T root N g (Path2T (bytesOf p) (bytesOf d) g (LinkG g root (bytesOf p) (bytesOf d))) W) :=
  do_turn M T root N g 9 p d a n A m c bs W (by decide) hp hd hl hm hrow ha hn h hM hz _ fun dd w hdo hb ht => by
    obtain ⟨X, e, hX⟩ := doat9 hdo
    refine ⟨_, _, e, enters_of Tryz.func135 (by kernel_rfl) rfl, ?_⟩
    rw [cat4]
    exact simple1_any 101 T root N X (W.heap.size + 1) g _ 9 p d a n A m c w ht (enters_of Tryz.func101 (by kernel_rfl) rfl) hX fun w2 _ ht2 => acts7_any T root N g 9 p d a n A m c w2 hp hd ht2 hN
theorem do_write (hz : checkN 10 (bytesOf p) (bytesOf d) a n m = 0) : Calls Tryz.prog 19 #[.pointer (some ⟨M, 0, none⟩), opV 10 p d a n A m c] W (DidT T root N g (ChangedG g root (bytesOf p) (fun b => writeG b.length a bs.length) (fun b => writeP b a.toNat bs)) W) :=
  do_turn M T root N g 10 p d a n A m c bs W (by decide) hp hd hl hm hrow ha hn h hM hz _ fun dd w hdo hb ht => by
    obtain ⟨X, e, hX⟩ := doat10 hdo
    refine ⟨_, _, e, enters_of Tryz.func152 (by kernel_rfl) rfl, ?_⟩
    rw [cat4]
    exact changed1_any 106 T root N X (W.heap.size + 1) g _ _ 10 p d a n A m c w hp ht hN (enters_of Tryz.func106 (by kernel_rfl) rfl) hX fun b1 A1 k1 c1 w2 hb2 q1 q2 q3 q4 => acts9_any 10 p d a n A m c bs b1 A1 k1 c1 w2 hl hm ((hrow.below hb).below hb2) q1 q2 q3 q4
theorem do_cut (hz : checkN 11 (bytesOf p) (bytesOf d) a n m = 0) : Calls Tryz.prog 19 #[.pointer (some ⟨M, 0, none⟩), opV 11 p d a n A m c] W (DidT T root N g (ChangedG g root (bytesOf p) (fun b => cutG b.length n) (fun b => (extP b n.toNat).take n.toNat)) W) :=
  do_turn M T root N g 11 p d a n A m c bs W (by decide) hp hd hl hm hrow ha hn h hM hz _ fun dd w hdo hb ht => by
    obtain ⟨X, e, hX⟩ := doat11 hdo
    refine ⟨_, _, e, enters_of Tryz.func152 (by kernel_rfl) rfl, ?_⟩
    rw [cat4]
    exact changed1_any 110 T root N X (W.heap.size + 1) g _ _ 11 p d a n A m c w hp ht hN (enters_of Tryz.func110 (by kernel_rfl) rfl) hX fun b1 A1 k1 c1 w2 hb2 q1 q2 q3 q4 => acts11_any 11 p d a n A m c b1 A1 k1 c1 w2 q1 q2 q3 q4
theorem do_stat (hz : checkN 1 (bytesOf p) (bytesOf d) a n m = 0) : Calls Tryz.prog 19 #[.pointer (some ⟨M, 0, none⟩), opV 1 p d a n A m c] W (GaveT T root N g (kindT g root (bytesOf p)).2 (VStat g root (bytesOf p)) W) := by
  refine do_ask M T root N g 1 p d a n A m c bs W (by decide) hp hd hl hm hrow ha hn h hM hz _ _ (steadyStat _ _ _ _) (fun _ => StatV g root (bytesOf p) (W.heap.size + 1)) ?_ fun dd w hdo hb ht hR hRG hRT => ?_
  · rintro b w _ ⟨nd, h1, h2⟩
    refine ⟨_, _, _, _, _, _, _, _, _, h2, ⟨rfl, rfl, rfl, rfl, rfl, rfl⟩, nd, h1, rfl, rfl, ?_⟩
    unfold cntN
    cases nd.kids <;> rfl
  · refine ⟨_, _, doat1 hdo, enters_of Tryz.func86 (by kernel_rfl) rfl, ?_⟩
    rw [cat3]
    exact stat_any T root N (W.heap.size + 1) g 1 p d a n A m c w hp ht hN hR hRG hRT
theorem do_list (hz : checkN 2 (bytesOf p) (bytesOf d) a n m = 0) : Calls Tryz.prog 19 #[.pointer (some ⟨M, 0, none⟩), opV 2 p d a n A m c] W (GaveT T root N g (errAt offN g root (bytesOf p)) (VList g root (bytesOf p) W.heap.size) W) := by
  refine do_ask M T root N g 2 p d a n A m c bs W (by decide) hp hd hl hm hrow ha hn h hM hz _ _ (steadyList _ _ _ _ _) (fun b => NamesV g root (bytesOf p) (W.heap.size + 1) b) ?_ fun dd w hdo hb ht hR hRG hRT => ?_
  · rintro b w hb ⟨nd, m, D, A, k, c, h1, h2, h3, h4, h5, h6, h7, h8⟩
    exact ⟨_, _, _, _, _, _, _, _, _, h3, ⟨rfl, rfl, rfl, rfl, rfl, rfl⟩, nd, m, D, h1, h2, h4, h5, h6, h7, h8.imp id fun ⟨q, q1, q2⟩ => ⟨q, Nat.le_trans hb q1, q2⟩⟩
  · obtain ⟨X, Y, e, hX, hY⟩ := doat2 hdo
    refine ⟨_, _, e, enters_of Tryz.func127 (by kernel_rfl) rfl, ?_⟩
    rw [cat5]
    exact told1L_any T root N X Y (W.heap.size + 1) g 2 p d a n A m c w hp ht hN hR hRG hRT hX hY
theorem do_read (a0 n0 : Nat) (ea : a = a0) (en : n = n0) (hz : checkN 3 (bytesOf p) (bytesOf d) a n m = 0) : Calls Tryz.prog 19 #[.pointer (some ⟨M, 0, none⟩), opV 3 p d a n A m c] W (GaveT T root N g (errAt offB g root (bytesOf p)) (VRead g root (bytesOf p) a0 n0 W.heap.size) W) := by
  subst ea en
  refine do_ask M T root N g 3 p d a0 n0 A m c bs W (by decide) hp hd hl hm hrow ha hn h hM hz _ _ (steadyRead _ _ _ _ _ _ _) (fun b => BytesV g root (bytesOf p) a0 n0 (W.heap.size + 1) b) ?_ fun dd w hdo hb ht hR hRG hRT => ?_
  · rintro b w hb ⟨nd, A, k, c, h1, h2, h3, h4, h5, h6, h7, h8⟩
    exact ⟨_, _, _, _, _, _, _, _, _, h3, ⟨rfl, rfl, rfl, rfl, rfl, rfl⟩, nd, h1, h2, h4, h5, h6, h7, fun ad e => Nat.le_trans hb (h8 ad e)⟩
  · refine ⟨_, _, doat3 hdo, enters_of Tryz.func134 (by kernel_rfl) rfl, ?_⟩
    rw [cat3]
    exact read2_any T root N (W.heap.size + 1) g 3 p d a0 n0 A m c w hp (by omega) (by omega) ht hN hR hRG hRT
end
end Go.Proofs.YtibpagmpdgflmaaGreatDoor

namespace Go.Proofs.YtibpagmpdgflmaaGreatDoor
open Go.RowKit Go.Maps

/-- A root with a file's entries. -/
def gW (root m F : Nat) (D : DataW Value) (bs : List UInt8) (lk : Nat) : GrP := fun k => if k = F then some ⟨none, bs, lk⟩ else if k = root then some ⟨some (m, D), [], 1⟩ else none
theorem gW_F (root m F : Nat) (D : DataW Value) (bs : List UInt8) (lk : Nat) : gW root m F D bs lk F = some ⟨none, bs, lk⟩ := if_pos rfl
theorem gW_root {root m F : Nat} {D : DataW Value} {bs : List UInt8} {lk : Nat} (h : F ≠ root) : gW root m F D bs lk root = some ⟨some (m, D), [], 1⟩ := by unfold gW; rw [if_neg (fun e => h e.symm), if_pos rfl]
def heldP (F : Nat) : DataW Value := .held (.pointer (some ⟨F, 0, none⟩))
def DF (F : Nat) : DataW Value := .map [(.string [102], heldP F)]
def DFG (F : Nat) : DataW Value := .map [(.string [102], heldP F), (.string [103], heldP F)]
abbrev sF : ByteArray := ⟨#[47, 102]⟩
abbrev sG : ByteArray := ⟨#[47, 103]⟩
abbrev sX : ByteArray := ⟨#[47, 120]⟩
abbrev sR : ByteArray := ⟨#[47]⟩
abbrev sE : ByteArray := ⟨#[]⟩
theorem readF : readP [47, 102] = (0, [[102]]) := by kernel_rfl
theorem readG : readP [47, 103] = (0, [[103]]) := by kernel_rfl
theorem readX : readP [47, 120] = (0, [[120]]) := by kernel_rfl
theorem readRt : readP [47] = (0, []) := by kernel_rfl
theorem kidDF (F : Nat) : kidOf (DF F) [102] = some F := by unfold kidOf; rw [if_pos (by kernel_rfl)]; rfl
theorem kidDFX (F : Nat) : kidOf (DF F) [120] = none := by unfold kidOf; rw [show Maps.has (DF F) (.string [120]) = false by kernel_rfl]; rfl
theorem hasDFG (F : Nat) : Maps.has (DF F) (.string [103]) = false := by kernel_rfl
theorem kidDFG (F : Nat) : kidOf (DFG F) [103] = some F := by unfold kidOf; rw [if_pos (by kernel_rfl)]; rfl
theorem putDF (F : Nat) : (DataW.map [] : DataW Value).put (.string [102]) (heldP F) = DF F := by kernel_rfl
theorem putDFG (F : Nat) : (DF F).put (.string [103]) (heldP F) = DFG F := by kernel_rfl
theorem namesDF (F : Nat) : namesL (DF F) = [[102]] := by unfold namesL; simp [strKeys, DF, strOf]
section
variable {root m F : Nat} {D : DataW Value} {bs : List UInt8} {lk : Nat} (hF : F ≠ root)
include hF
theorem walkW {s : List UInt8} (hD : kidOf D s = some F) : walkG (gW root m F D bs lk) [s] root = (F, 0) := by
  simp only [walkG, gW_root hF, hD]
theorem walkWX {s : List UInt8} (hD : kidOf D s = none) : walkG (gW root m F D bs lk) [s] root = (root, 202) := by
  simp only [walkG, gW_root hF, hD]
theorem nodeW {p s : List UInt8} (hp : readP p = (0, [s])) (hD : kidOf D s = some F) : nodeAt (gW root m F D bs lk) root p = F := by
  unfold nodeAt; rw [hp, walkW hF hD]
theorem errW {o : NodeP → Int} {p s : List UInt8} (hp : readP p = (0, [s])) (hD : kidOf D s = some F) : errAt o (gW root m F D bs lk) root p = o ⟨none, bs, lk⟩ := by
  unfold errAt; rw [hp, walkW hF hD]; simp only [gW_F]; rfl
theorem kindW {p s : List UInt8} (hp : readP p = (0, [s])) (hD : kidOf D s = some F) : kindT (gW root m F D bs lk) root p = (1, 0) := by
  unfold kindT; rw [hp, walkW hF hD]; simp only [gW_F]; rfl
theorem fileW {p s : List UInt8} (hp : readP p = (0, [s])) (hD : kidOf D s = some F) : fileE (gW root m F D bs lk) root p = (F, 0) := by
  unfold fileE; rw [hp, walkW hF hD]; simp only [gW_F]; rfl
theorem putW {p s bs' : List UInt8} {c : Int} {g' : GrP} (hp : readP p = (0, [s])) (hD : kidOf D s = some F) (hb : bs'.length ≤ 448) (h : PathT p (gW root m F D bs lk) (PutG (gW root m F D bs lk) root p bs') c g') : c = 0 ∧ g' = gW root m F D bs' lk := by
  unfold PathT at h
  rw [hp, if_pos rfl] at h
  obtain ⟨h1, _, h3⟩ := h
  have hc : c = 0 := by rw [h1]; unfold putE; rw [fileW hF hp hD]; simp; omega
  obtain ⟨n, nd, q1, q2, q3, q4⟩ := h3 hc
  rw [fileW hF hp hD] at q1
  injection q1 with q1
  subst q1
  rw [gW_F] at q2
  injection q2 with q2
  subst q2
  refine ⟨hc, ?_⟩
  rw [q4]
  funext k
  unfold updG gW
  by_cases e : k = F
  · rw [if_pos e, if_pos e]
  · rw [if_neg e, if_neg e, if_neg e]
theorem changedW {p s : List UInt8} {zf : List UInt8 → Int} {out : List UInt8 → List UInt8} {c : Int} {g' : GrP} (hp : readP p = (0, [s])) (hD : kidOf D s = some F) (hz : zf bs = 0) (hb : (out bs).length ≤ 448) (h : ChangedG (gW root m F D bs lk) root p zf out c g') : c = 0 ∧ g' = gW root m F D (out bs) lk := by
  obtain ⟨_, h⟩ := h
  obtain ⟨nd, h1, _, h2⟩ := h (by rw [errW hF hp hD]; rfl)
  rw [nodeW hF hp hD, gW_F] at h1
  injection h1 with h1
  subst h1
  exact putW hF hp hD hb (h2 hz)
end
theorem madeW {root m : Nat} {c : Int} {g' : GrP} (h : PathT [47, 102] (gNew root m) (MadeG (gNew root m) root 1 [47, 102]) c g') : c = 0 ∧ ∃ F, F ≠ root ∧ g' = gW root m F (DF F) [] 1 := by
  unfold PathT at h
  rw [readF, if_pos rfl] at h
  obtain ⟨h1, _, h3⟩ := h
  have hf : freshE (gNew root m) root [47, 102] = (root, 0) := by
    unfold freshE
    rw [if_neg (by decide), readF]
    show (match spotE (gNew root m) root [[102]] with | (d, 0) => _ | r => r) = _
    have hs : spotE (gNew root m) root [[102]] = (root, 0) := by
      unfold spotE
      show (match (root, 0) with | (d, 0) => _ | (d, z) => (d, z)) = _
      simp only [gNew_root]
      rfl
    rw [hs]
    simp only [gNew_root]
    rfl
  have hc : c = 0 := by rw [h1]; unfold makeE; rw [hf]; rfl
  obtain ⟨n, kids, d, nd, m', D, q1, q2, q3, _, q5, q6, q7, q8⟩ := h3 hc
  rw [hf] at q1
  injection q1 with q1
  subst q1
  rw [gNew_root] at q2
  injection q2 with q2
  subst q2
  injection q3 with q3
  injection q3 with q3 q3'
  subst q3 q3'
  refine ⟨hc, n, q6, ?_⟩
  rw [q8, q7, readF]
  funext k
  have hl : lastL [[102]] = [102] := rfl
  rw [hl, show (DataW.held (Value.pointer (some ⟨n, 0, none⟩)) : DataW Value) = heldP n from rfl, putDF]
  unfold updG gW gNew
  by_cases e : k = root
  · subst e
    rw [if_pos rfl, if_neg (fun e => q6 e.symm), if_pos rfl]
  · rw [if_neg e]
    by_cases e2 : k = n
    · rw [if_pos e2, if_pos e2]; rfl
    · rw [if_neg e2, if_neg e2, if_neg e, if_neg e]
theorem linkW {root m F : Nat} {bs : List UInt8} {lk : Nat} {c : Int} {g' : GrP} (hF : F ≠ root) (hl : lk < 200) (h : Path2T [47, 102] [47, 103] (gW root m F (DF F) bs lk) (LinkG (gW root m F (DF F) bs lk) root [47, 102] [47, 103]) c g') : c = 0 ∧ g' = gW root m F (DFG F) bs (lk + 1) := by
  unfold Path2T at h
  rw [show read2 [47, 102] [47, 103] = 0 by kernel_rfl, if_pos rfl] at h
  obtain ⟨h1, _, h3⟩ := h
  have hf : freshE (gW root m F (DF F) bs lk) root [47, 103] = (root, 0) := by
    unfold freshE
    rw [if_neg (by decide), readG]
    show (match spotE (gW root m F (DF F) bs lk) root [[103]] with | (d, 0) => _ | r => r) = _
    have hs : spotE (gW root m F (DF F) bs lk) root [[103]] = (root, 0) := by
      unfold spotE
      show (match (root, 0) with | (d, 0) => _ | (d, z) => (d, z)) = _
      simp only [gW_root hF]
      rfl
    rw [hs]
    simp only [gW_root hF]
    rfl
  have hfi := fileW (m := m) (bs := bs) (lk := lk) hF readF (kidDF F)
  have hc : c = 0 := by
    rw [h1]; unfold linkE; rw [hf, hfi]; simp only [gW_F]
    rw [if_neg (by simp), if_neg (by simp), if_neg (by omega)]
  obtain ⟨n, nn, p, nd, m', D, q1, q2, q3, q4, q5, q6, q7, q8⟩ := h3 hc
  rw [hfi] at q1
  rw [hf] at q2
  injection q1 with q1
  injection q2 with q2
  subst q1 q2
  rw [gW_F] at q3
  injection q3 with q3
  subst q3
  rw [gW_root hF] at q5
  injection q5 with q5
  subst q5
  injection q6 with q6
  injection q6 with q6 q6'
  subst q6 q6'
  refine ⟨hc, ?_⟩
  rw [q8, readG]
  funext k
  have hl : lastL [[103]] = [103] := rfl
  rw [hl, show (DataW.held (Value.pointer (some ⟨F, 0, none⟩)) : DataW Value) = heldP F from rfl, putDFG]
  unfold updG gW
  by_cases e : k = F
  · rw [if_pos e, if_pos e]
  · by_cases e2 : k = root <;> simp [e, e2]
end Go.Proofs.YtibpagmpdgflmaaGreatDoor
