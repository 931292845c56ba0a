/- The iterator path.Prefixes. Conditions: none. -/
import Derived.Test.YtibpagmpdgflmaaGreatDoorZC7
import Derived.Test.YtibpagmpdgflmaaGreatDoorZW1
namespace Go.Proofs.YtibpagmpdgflmaaGreatDoor
open Go.RowKit Go.Shelf
attribute [local go_sem] Oper.semAt_some

/-- A path's beginnings. -/
def prefOf (l : List (List UInt8)) (k : Nat) : Nat × List UInt8 := (k, textP (l.take k))
def prefN (l : List (List UInt8)) : List (Nat × List UInt8) := if l = [] then [] else (List.range (l.length + 1)).map (prefOf l)
def encPref (x : Nat × List UInt8) : Array Value := #[.int .i64 x.1, .string (ofBytes x.2)]

/-- What the loop over the beginnings keeps. -/
def PI (nm : List (List UInt8)) (W W2 : World) (J : List (Nat × List UInt8) → World → Prop) (pre : List Nat) (Wx : World) : Prop :=
  J (pre.map (prefOf nm)) Wx ∧ (∀ k, W.heap.size ≤ k → k < W2.heap.size → Wx.heap[k]? = W2.heap[k]?) ∧ W2.heap.size ≤ Wx.heap.size
def PIx (nm : List (List UInt8)) (Jx : List (Nat × List UInt8) → World → Prop) (c : Code) (pre : List Nat) (Wx : World) : Prop :=
  Jx (pre.map (prefOf nm)) Wx ∧ c = .exit 0
theorem pi_own {nm : List (List UInt8)} {W W2 : World} {J : List (Nat × List UInt8) → World → Prop} (h : OwnFrom W2.heap.size J) : OwnFrom W2.heap.size (PI nm W W2 J) :=
  fun s X Y row hs hg hr => ⟨h _ X Y row hs.1 hg hr, fun k h1 h2 => (hg.block k (by have := hs.2.2; omega) (fun e => by have := (hr k e.symm).1; omega)).trans (hs.2.1 k h1 h2), Nat.le_trans hs.2.2 hg.size⟩
theorem pix_own {nm : List (List UInt8)} {B : Nat} {Jx : List (Nat × List UInt8) → World → Prop} {c : Code} (h : OwnFrom B Jx) : OwnFrom B (PIx nm Jx c) :=
  fun _ X Y row hs hg hr => ⟨h _ X Y row hs.1 hg hr, hs.2⟩

end Go.Proofs.YtibpagmpdgflmaaGreatDoor
