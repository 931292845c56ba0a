/- Slices that read as lists, in worlds that grow. Conditions: none. -/
import Derived.Test.YtgkmcooahjoagaaK0
namespace Go.Proofs.Ytgkmcooahjoagaa
open Go.RowKit

/-- A slice's cells, one by one. -/
def RowAt (w : World) (A : Option Addr) (cs : List Value) : Prop :=
  0 < cs.length → ∃ b off, A = some ⟨b, off, none⟩ ∧ b < w.heap.size ∧ ∀ k u, cs[k]? = some u → w.cell? ⟨b, off + k, none⟩ = some u

section
variable {w w' : World} {A : Option Addr} {cs : List Value}
theorem RowAt.nil : RowAt w A [] := fun h => absurd h (by simp)
theorem RowAt.keep (h : RowAt w A cs) (hs : w.heap.size ≤ w'.heap.size) (hk : ∀ p : Addr, p.block < w.heap.size → w'.cell? p = w.cell? p) : RowAt w' A cs := fun hn => by
  obtain ⟨b, off, e, hb, hc⟩ := h hn
  exact ⟨b, off, e, by omega, fun k u hu => (hk _ hb).trans (hc k u hu)⟩
theorem RowAt.below (h : RowAt w A cs) (hb : Below w.heap.size w w') : RowAt w' A cs := h.keep hb.size fun _ hp => hb.cell hp
theorem RowAt.alloc (h : RowAt w A cs) (o : Obj) : RowAt (w.alloc o) A cs := h.below ((Below.refl _ _).alloc (Nat.le_refl _) _)
theorem RowAt.drew (h : RowAt w A cs) : RowAt w.drew A cs := h
theorem RowAt.drewN (h : RowAt w A cs) (k : Nat) : RowAt (w.drewN k) A cs := h
theorem RowAt.below_of {B : Nat} (h : RowAt w A cs) (hb : Below B w w') (hB : ∀ b off, A = some ⟨b, off, none⟩ → b < B) : RowAt w' A cs := fun hn => by
  obtain ⟨b, off, e, hb', hc⟩ := h hn
  exact ⟨b, off, e, by have := hb.size; omega, fun k u hu => (hb.cell (p := ⟨b, off + k, none⟩) (hB b off e)).trans (hc k u hu)⟩
theorem RowAt.take (h : RowAt w A cs) (n : Nat) : RowAt w A (cs.take n) := fun hn => by
  have : 0 < cs.length := by rw [List.length_take] at hn; omega
  obtain ⟨b, off, e, hb, hc⟩ := h this
  refine ⟨b, off, e, hb, fun k u hu => hc k u ?_⟩
  rw [List.getElem?_take] at hu
  split at hu
  · exact hu
  · cases hu
theorem RowAt.get (h : RowAt w A cs) {k : Nat} {u : Value} (hk : cs[k]? = some u) : ∃ b off, A = some ⟨b, off, none⟩ ∧ b < w.heap.size ∧ w.cell? ⟨b, off + k, none⟩ = some u := by
  obtain ⟨b, off, e, hb, hc⟩ := h (by have := (List.getElem?_eq_some_iff.1 hk).1; omega)
  exact ⟨b, off, e, hb, hc k u hk⟩
end
theorem cells_after {W w1 : World} (hb : Below W.heap.size W w1) : (∀ b o, b < W.heap.size → w1.cell? ⟨b, o, none⟩ = W.cell? ⟨b, o, none⟩) ∧ (∀ b o, b < W.heap.size → w1.frozen? ⟨b, o, none⟩ = W.frozen? ⟨b, o, none⟩) :=
  ⟨fun b o h => hb.cell (p := ⟨b, o, none⟩) h, fun b o h => hb.frozen (p := ⟨b, o, none⟩) h⟩
theorem below_trans {W w1 w2 : World} (h1 : Below W.heap.size W w1) (h2 : Below w1.heap.size w1 w2) : Below W.heap.size W w2 := h1.trans (h2.mono h1.size)
theorem ret_int' {k : IntKind} {a b : Int} (h : a = b) : Ending.returned (.int k a) = .returned (.int k b) := by rw [h]
theorem ret_bool' {a b : Bool} (h : a = b) : Ending.returned (.bool a) = .returned (.bool b) := by rw [h]
end Go.Proofs.Ytgkmcooahjoagaa
