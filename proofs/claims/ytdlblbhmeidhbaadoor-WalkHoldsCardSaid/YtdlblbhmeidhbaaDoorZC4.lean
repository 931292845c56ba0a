/- The contracts of path.Split, Parent, Join, Within. Conditions: none. -/
import Derived.Test.YtdlblbhmeidhbaaDoorZC3
namespace Go.Proofs.YtdlblbhmeidhbaaDoor
open Go.RowKit

def SplitPPost (s : ByteArray) (w : World) (e : Ending) (w' : World) : Prop :=
  ∃ v, e = .returned (.tuple #[v, .int .i64 (readP (bytesOf s)).1]) ∧ PathAt w' v (readP (bytesOf s)).2 ∧ Below w.heap.size w w' ∧ Fresh w.heap.size v

theorem PathAt.below {w w' : World} {v : Value} {l : List (List UInt8)} (h : PathAt w v l) (hb : Below w.heap.size w w') : PathAt w' v l := by
  obtain ⟨A, c, h1, h2, h3, h4⟩ := h
  exact ⟨A, c, h1, h2, h3, h4.below hb⟩
theorem PathAt.alloc {w : World} {v : Value} {l : List (List UInt8)} (h : PathAt w v l) (o : Obj) : PathAt (w.alloc o) v l := h.below ((Below.refl _ _).alloc (Nat.le_refl _) _)

set_option maxRecDepth 100000 in
set_option maxHeartbeats 1000000 in
theorem psplit_any (s : ByteArray) (w : World) (hs : s.size < 4294967281) :
    Calls Tryd.prog 15 #[.string s] w (SplitPPost s w) := by
  have HC := Lib.hid (fun W => read_any s W hs)
  go_enter Tryd.func15, Tryd.ntmps15
  go_wp2_with fail
  refine (HC.out _).mono ?_
  rintro e w' ⟨v, rfl, hp, hb, hfr⟩
  have HFR := Lib.hid hfr
  clear hfr
  obtain ⟨A, c, rfl, h1, h2, h3⟩ := id hp
  have HP := Lib.hid hp
  have H3 := Lib.hid h3
  clear hp h3
  generalize hl : readP (bytesOf s) = rp at *
  have HL := Lib.hid hl
  clear hl
  go_wp2_with fail
  go_ret2
  exact ⟨.slice A rp.2.length c, by rw [HL.out]; rfl, by rw [HL.out]; exact HP.out.alloc _, hb.alloc hb.size _, HFR.out⟩

theorem bytesOf_append (a b : ByteArray) : bytesOf (a ++ b) = bytesOf a ++ bytesOf b := by
  unfold bytesOf; simp
/-- The path of names. -/
def textP (xs : List (List UInt8)) : List UInt8 := 47 :: joinL 47 xs

theorem joinL_length (c : UInt8) : ∀ l : List (List UInt8), (∀ x ∈ l, x.length ≤ 40) → (joinL c l).length ≤ 41 * l.length
  | [], _ => by simp [joinL]
  | [x], h => by have := h x (by simp); simp [joinL]; omega
  | x :: y :: ys, h => by
    rw [joinL_cons _ _ (by simp), List.length_append, List.length_cons, List.length_cons]
    have h1 := h x (by simp)
    have h2 := joinL_length c (y :: ys) (fun z hz => h z (by simp [hz]))
    rw [List.length_cons] at h2 ⊢
    omega
/-- Names of a path. -/
def Fine (xs : List (List UInt8)) : Prop := xs.length ≤ 16 ∧ ∀ x ∈ xs, x.length ≤ 40

end Go.Proofs.YtdlblbhmeidhbaaDoor
